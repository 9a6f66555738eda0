/-
  Texts of the proof, one after the other.
  Conditions: none.
-/
import Derived.Test.YtgnipfjjkliibaaP3BfPan
import Derived.Test.YtgnipfjjkliibaaP3BfLend
import Derived.Test.YtgnipfjjkliibaaP3BfClear
import Derived.Test.YtgnipfjjkliibaaP3BfMap2
import Derived.Test.YtgnipfjjkliibaaP3BfOwnN
import Derived.Test.YtgnipfjjkliibaaP3BfDel
import Derived.Test.YtgnipfjjkliibaaP3Xs
import Derived.Test.YtgnipfjjkliibaaP3a
/-
  Honour: what is not broken can be met together, whatever happens. Plain.
  Conditions: none.
-/
namespace Go.Proofs.Ytgnipfjjkliibaa
open Go Bf
theorem askF_lt {s : St} {j : Nat} (h : askF s j = true) : j < s.br.length ∧ s.br.getD j 0 < 0 := by
  have h2 := Bool.and_eq_true_iff.1 h
  exact ⟨of_decide_eq_true h2.1, of_decide_eq_true h2.2⟩
theorem askF_of {s : St} {j : Nat} (h1 : j < s.br.length) (h2 : s.br.getD j 0 < 0) : askF s j = true := Bool.and_eq_true_iff.2 ⟨decide_eq_true h1, decide_eq_true h2⟩
theorem fail_nil {x : Fx} {s : St} (hf : Fit x s) (hh : Held x s) (e : Nat) : failF x s e = [] :=
  failL_all (fun S T h hS => srvP_mono hf.amr S T h hS) (srvP_mono hf.amr _ _ (fun b hb => (Bool.and_eq_true_iff.1 hb).2) hh)
theorem fail_nil_iff {x : Fx} {s : St} (hf : Fit x s) : failF x s s.nd.length = [] ↔ Held x s := by
  refine ⟨fun h => srvP_mono hf.amr _ _ (fun b hb => ?_) (acc_ok (ask := askF s) (srvP_none hf) s.nd.length), fun h => fail_nil hf h _⟩
  have h1 := askF_lt hb
  cases hc : acc (srvP x s) (askF s) s.nd.length b with
  | true => rfl
  | false =>
    have := mem_failL.2 ⟨by have := hf.brl; omega, hb, hc⟩
    rw [show failL (srvP x s) (askF s) s.nd.length = failF x s s.nd.length from rfl, h] at this
    cases this
theorem markF_br {x : Fx} {s : St} {at_ j : Nat} (h : j < s.br.length) : (markF x s at_).br.getD j 0 = if j ∈ failF x s s.nd.length then (at_ : Int) else s.br.getD j 0 := by
  simp [markF, List.getD_eq_getElem?_getD, h]
theorem markF_brl {x : Fx} {s : St} {at_ : Nat} : (markF x s at_).br.length = s.br.length := by simp [markF]
theorem held_mark {x : Fx} {s : St} (hf : Fit x s) (at_ : Nat) : Held x (markF x s at_) := by
  refine srvP_mono (s := markF x s at_) hf.amr _ _ (fun b hb => ?_) (show srvP x (markF x s at_) (acc (srvP x s) (askF s) s.nd.length) from acc_ok (srvP_none hf) s.nd.length)
  obtain ⟨h1, h2⟩ := askF_lt hb
  rw [markF_brl] at h1
  rw [markF_br h1] at h2
  by_cases hm : b ∈ failF x s s.nd.length
  · rw [if_pos hm] at h2; omega
  · rw [if_neg hm] at h2
    cases hc : acc (srvP x s) (askF s) s.nd.length b with
    | true => rfl
    | false => exact absurd (mem_failL.2 ⟨by have := hf.brl; omega, askF_of h1 h2, hc⟩) hm
theorem Fit.mark {x : Fx} {s : St} (h : Fit x s) (at_ : Nat) : Fit x (markF x s at_) :=
  ⟨h.l64, h.r64, h.dyl, by rw [markF_brl]; exact h.brl, h.dul, h.fil, h.row, h.amr, h.ndr, h.dyr, h.dur⟩
theorem set_all {l : List Int} {R : Int → Prop} (h : ∀ a ∈ l, R a) {v : Int} (hv : R v) (i : Nat) : ∀ a ∈ l.set i v, R a := fun a ha => (List.mem_or_eq_of_mem_set ha).elim (h a) (fun e => e ▸ hv)
theorem Fit.setAm {x : Fx} {s : St} (h : Fit x s) {v : Int} (hv : 0 ≤ v ∧ v ≤ 1048576) (i : Nat) : Fit x { s with am := s.am.set i v } :=
  ⟨by show (s.am.set i v).length ≤ 64; rw [List.length_set]; exact h.l64, h.r64, by show s.dy.length = (s.am.set i v).length; rw [List.length_set]; exact h.dyl, h.brl, h.dul, by show _ = (s.am.set i v).length; rw [List.length_set]; exact h.fil, h.row, set_all h.amr hv i, h.ndr, h.dyr, h.dur⟩
theorem Fit.setDy {x : Fx} {s : St} (h : Fit x s) {v : Int} (hv : 0 ≤ v ∧ v ≤ 1024) (i : Nat) : Fit x { s with dy := s.dy.set i v } :=
  ⟨h.l64, h.r64, by show (s.dy.set i v).length = _; rw [List.length_set]; exact h.dyl, h.brl, h.dul, h.fil, h.row, h.amr, h.ndr, set_all h.dyr hv i, h.dur⟩
theorem Fit.setNd {x : Fx} {s : St} (h : Fit x s) {v : Int} (hv : 0 ≤ v ∧ v ≤ 1048576) (i : Nat) : Fit x { s with nd := s.nd.set i v } :=
  ⟨h.l64, by show (s.nd.set i v).length ≤ 64; rw [List.length_set]; exact h.r64, h.dyl, by show _ = (s.nd.set i v).length; rw [List.length_set]; exact h.brl, by show _ = (s.nd.set i v).length; rw [List.length_set]; exact h.dul, h.fil, by show ∀ r ∈ x.fits, r.length = (s.nd.set i v).length; rw [List.length_set]; exact h.row, h.amr, set_all h.ndr hv i, h.dyr, h.dur⟩
/-- what a step that is permitted is -/
inductive Stp (x : Fx) (s : St) (h : Hp) (at_ : Nat) : St → Prop
  | lose (i : Nat) : h.kind = 1 → h.sup = (i : Int) → i < s.am.length → 1 ≤ h.amt → h.amt ≤ s.am.getD i 0 → Stp x s h at_ (markF x { s with am := s.am.set i (s.am.getD i 0 - h.amt) } at_)
  | late (i : Nat) : h.kind = 2 → h.sup = (i : Int) → i < s.am.length → s.dy.getD i 0 ≤ h.day → h.day ≤ 1024 → Stp x s h at_ (markF x { s with dy := s.dy.set i h.day } at_)
  | ship (i j : Nat) : h.kind = 3 → h.sup = (i : Int) → h.req = (j : Int) → i < s.am.length → j < s.nd.length → s.br.getD j 0 < 0 → (x.fits.getD i []).getD j false = true → s.dy.getD i 0 ≤ h.day → h.day ≤ x.due.getD j 0 → 1 ≤ h.amt → h.amt ≤ s.am.getD i 0 → h.amt ≤ s.nd.getD j 0 →
      failF x { s with am := s.am.set i (s.am.getD i 0 - h.amt), nd := s.nd.set j (s.nd.getD j 0 - h.amt) } s.nd.length = [] → Stp x s h at_ { s with am := s.am.set i (s.am.getD i 0 - h.amt), nd := s.nd.set j (s.nd.getD j 0 - h.amt) }
theorem nat_of {z : Int} {n : Nat} (h : 0 ≤ z ∧ z ≤ (n : Int) - 1) : ∃ i : Nat, z = (i : Int) ∧ z.toNat = i ∧ i < n := ⟨z.toNat, by omega, rfl, by omega⟩
theorem stepF_some {x : Fx} {s s' : St} {h : Hp} {at_ : Nat} : stepF x s h at_ = some s' ↔ Stp x s h at_ s' := by
  unfold stepF
  constructor
  · intro e
    by_cases k1 : h.kind = 1
    · rw [if_pos k1] at e
      split at e
      · rename_i c
        obtain ⟨i, e1, e2, e3⟩ := nat_of c.1
        rw [e2] at e c
        cases e
        exact .lose i k1 e1 e3 c.2.1 c.2.2
      · cases e
    rw [if_neg k1] at e
    by_cases k2 : h.kind = 2
    · rw [if_pos k2] at e
      split at e
      · rename_i c
        obtain ⟨i, e1, e2, e3⟩ := nat_of c.1
        rw [e2] at e c
        cases e
        exact .late i k2 e1 e3 c.2.1 c.2.2
      · cases e
    rw [if_neg k2] at e
    by_cases k3 : h.kind = 3
    · rw [if_pos k3] at e
      split at e
      · rename_i c
        obtain ⟨i, e1, e2, e3⟩ := nat_of c.1.1
        obtain ⟨j, f1, f2, f3⟩ := nat_of c.1.2
        rw [e2, f2] at e c
        cases e
        obtain ⟨-, ⟨c1, ⟨c2, c3⟩, c4, c5⟩, ⟨c6, c7⟩, c8⟩ := c
        exact .ship i j k3 e1 f1 e3 f3 c1 c2 c4 c5 c6 (by omega) (by omega) c8
      · cases e
    rw [if_neg k3] at e
    cases e
  · intro e
    cases e with
    | lose i k e1 e2 e3 e4 =>
      have e5 : h.sup.toNat = i := by omega
      rw [if_pos k, e5, if_pos ⟨by omega, e3, e4⟩]
    | late i k e1 e2 e3 e4 =>
      have e5 : h.sup.toNat = i := by omega
      rw [if_neg (by omega), if_pos k, e5, if_pos ⟨by omega, e3, e4⟩]
    | ship i j k e1 e2 e3 e4 e5 e6 e7 e8 e9 e10 e11 e12 =>
      have f1 : h.sup.toNat = i := by omega
      have f2 : h.req.toNat = j := by omega
      rw [if_neg (by omega), if_neg (by omega), if_pos k, f1, f2, if_pos ⟨⟨by omega, by omega⟩, ⟨e5, ⟨e6, by omega⟩, e7, e8⟩, ⟨e9, by omega⟩, e12⟩]
theorem Stp.keep {x : Fx} {s s' : St} {h : Hp} {at_ : Nat} (hs : Stp x s h at_ s') (hf : Fit x s) : Fit x s' ∧ Held x s' := by
  cases hs with
  | lose i k e1 e2 e3 e4 =>
    have hr := getD_rng hf.amr i
    have hf' := hf.setAm (v := s.am.getD i 0 - h.amt) (by omega) i
    exact ⟨hf'.mark at_, held_mark hf' at_⟩
  | late i k e1 e2 e3 e4 =>
    have h0 : 0 ≤ s.dy.getD i 0 := by
      rw [List.getD_eq_getElem?_getD, List.getElem?_eq_getElem (by have := hf.dyl; omega)]
      exact (hf.dyr _ (List.getElem_mem _)).1
    have hf' := hf.setDy (v := h.day) (by omega) i
    exact ⟨hf'.mark at_, held_mark hf' at_⟩
  | ship i j k e1 e2 e3 e4 e5 e6 e7 e8 e9 e10 e11 e12 =>
    have hr := getD_rng hf.amr i
    have hr2 := getD_rng hf.ndr j
    have hf' := (hf.setAm (v := s.am.getD i 0 - h.amt) (by omega) i).setNd (v := s.nd.getD j 0 - h.amt) (by show 0 ≤ s.nd.getD j 0 - h.amt ∧ s.nd.getD j 0 - h.amt ≤ 1048576; omega) j
    refine ⟨hf', (fail_nil_iff hf').1 ?_⟩
    show failF x _ (s.nd.set j (s.nd.getD j 0 - h.amt)).length = []
    rw [List.length_set]
    exact e12
theorem stepsF_keep {x : Fx} : ∀ {l : List Hp} {s s' : St} {at_ : Nat}, stepsF x s at_ l = some s' → Fit x s → Held x s → Fit x s' ∧ Held x s'
  | [], s, s', at_, h, hf, hh => by
    cases h
    exact ⟨hf, hh⟩
  | y :: l, s, s', at_, h, hf, hh => by
    rw [stepsF] at h
    cases hs : stepF x s y at_ with
    | none => rw [hs] at h; cases h
    | some t =>
      rw [hs] at h
      have := (stepF_some.1 hs).keep hf
      exact stepsF_keep (l := l) h this.1 this.2
theorem begin_fit {b : Bk} (h : formedB b) : Fit (fxB b) (beginF b) := by
  obtain ⟨h1, h2, h3, h4, h5, h6⟩ := h
  refine ⟨by simp [beginF]; exact h1, by simp [beginF]; exact h2, by simp [beginF], by simp [beginF], by simp [fxB, beginF], by simp [fxB, beginF]; exact h5, ?_, ?_, ?_, ?_, ?_⟩
  · intro r hr
    simp only [beginF, List.length_map]
    exact h6 r hr
  · intro a ha
    simp only [beginF, List.mem_map] at ha
    obtain ⟨y, hy, rfl⟩ := ha
    exact (h3 y hy).1
  · intro a ha
    simp only [beginF, List.mem_map] at ha
    obtain ⟨y, hy, rfl⟩ := ha
    exact (h4 y hy).1
  · intro a ha
    simp only [beginF, List.mem_map] at ha
    obtain ⟨y, hy, rfl⟩ := ha
    exact (h3 y hy).2
  · intro a ha
    simp only [fxB, List.mem_map] at ha
    obtain ⟨y, hy, rfl⟩ := ha
    exact (h4 y hy).2
theorem run_keep {b : Bk} {l : List Hp} {s : St} (h : runF b l = some s) : formedB b ∧ Fit (fxB b) s ∧ Held (fxB b) s := by
  unfold runF at h
  split at h
  · rename_i hv
    have hf := begin_fit hv.1
    have hh := (fail_nil_iff hf).1 (by show failF _ _ (b.reqs.map (·.amount)).length = []; rw [List.length_map]; exact hv.2)
    exact ⟨hv.1, stepsF_keep h hf hh⟩
  · cases h
end Go.Proofs.Ytgnipfjjkliibaa

/-
  Matching: the contract of Flow.
  Conditions: none.
-/
namespace Go.Proofs.Ytgnipfjjkliibaa
open Go Bf
attribute [local irreducible] Tr Exec Stab HasTy Go.Addr.add IntKind.wrap
set_option maxHeartbeats 8000000 in
set_option maxRecDepth 20000 in
theorem flow_fn (M : Mem) (A0 A1 A2 : Option Addr) (c0 c1 c2 : Nat) (fits : List (List Bool)) (sup need : List Int) (hf : Fits2 M (.slice A0 fits.length c0) fits) (hs : Ints M (.slice A1 sup.length c1) sup) (hn : Ints M (.slice A2 need.length c2) need) (rs : I64s sup) (rn : I64s need) :
    Fn0 Try.prog 21 [.slice A0 fits.length c0, .slice A1 sup.length c1, .slice A2 need.length c2] M (fun r M' => FlowR fits sup need r M') := by
  refine Fn.intro Try.func21 rfl rfl Try.ntmps21 rfl fun E F => ?_
  repeat (first | ((with_reducible refine Tr.step rfl ?_); (first | (refine xmQ (z := ?_)) | (refine xaQ (z := ?_)))) | (with_reducible first | apply Tr.next | apply Tr.seq | apply Tr.region | apply Tr.nil))
  ((refine Tr.step rfl ?_)); refine Exec.call0 rfl (valid_fn M A0 A1 A2 c0 c1 c2 fits sup need hf hs hn rs rn) rfl ?_
  rintro _ _ _ ⟨rfl, rfl⟩
  cases hvv : validF fits sup need
  · repeat (first | ((with_reducible refine Tr.step rfl ?_); (first | (refine xaQ (z := ?_)) | ((with_reducible refine Knd.unOp ?_); ((refine Exec.stab rfl (Stab.not rfl) rfl ?_))))) | (with_reducible first | apply Tr.next | apply Tr.seq | apply Tr.region | apply Tr.nil | apply Tr.ret | apply Tr.then_ret) | (refine Tr.cond_bt rfl (by first | (with_reducible rfl) | (with_reducible exact Bool.not_false)) ?_))
    (refine dnQ (hL := by exact ⟨[], rfl⟩) (k := ⟨rfl, ?_⟩))
    exact .inl ⟨hvv, rfl⟩
  have hv := vld_iff.1 hvv
  have l1 := hv.ls
  have l2 := hv.ln
  have l3 := hv.lf
  repeat (first | ((with_reducible refine Tr.step rfl ?_); (first | (refine xmQ (z := ?_)) | ((with_reducible refine Knd.unOp ?_); ((refine Exec.stab rfl (Stab.not rfl) rfl ?_))))) | (with_reducible first | apply Tr.next | apply Tr.seq | apply Tr.region | apply Tr.nil | apply Tr.skip) | (refine Tr.cond_bf rfl (by first | (with_reducible rfl) | (with_reducible exact Bool.not_true)) ?_))
  ((refine Tr.step rfl ?_))
  refine Exec.call (A := []) rfl (begin_fn M A0 fits.length c0 A1 A2 c1 c2 sup need hs hn hv.ls hv.ln) (List.Perm.refl _) rfl ?_
  rintro _ _ _ _ ⟨o, rws0, rfl, ho, ho1, ho2, hrw, rfl, rfl⟩
  repeat (first | ((with_reducible refine Tr.step rfl ?_); (first | (refine xmQ (z := ?_)) | (refine xaQ (z := ?_)))) | (with_reducible first | apply Tr.next | apply Tr.seq | apply Tr.region | apply Tr.nil))
  ((refine Tr.step rfl ?_))
  refine Exec.call (A := stL o (need.length + 1) rws0 need (List.replicate 64 0) (List.replicate 65 0)) rfl (fill_fn M o A0 c0 fits sup need hv hf ho ho1 ho2 _ rws0 need _ _ (begin_shape hrw) rfl (begin_flow hv hrw) (by simp) (by simp)) (List.Perm.refl _) rfl ?_
  rintro _ _ _ _ ⟨rfl, rws, lack, tk, gv, rfl, hsh, hll, ltk, lgv, hfi⟩
  generalize rws0.map (·.1) = bs at hsh
  have hlk := lack_rng hv hll hfi.1
  have hL := hfi.isLack
  have hL0 := hL.zero hv.sup0 hv.need0
  have hls := sumN_list lack
  rw [hll] at hls
  rw [← hls] at hL hL0
  have r1 := sum_rng (by omega) hlk
  simp only [stL, List.cons_append, List.nil_append]
  repeat (first | ((with_reducible refine Tr.step rfl ?_); (first | (refine xmQ (z := ?_)) | (refine xlQ (z := ?_)) | (refine xfQ (z := ?_)) | ((with_reducible refine Knd.nilCheck ?_); (refine Exec.stab rfl (Stab.nilCheck rfl) rfl ?_)))) | (with_reducible first | apply Tr.next | apply Tr.seq | apply Tr.region | apply Tr.nil))
  refine own_cap o.Al (by repeat (first | exact Has.here | apply Has.there)) (fun hA1 hA2 => ?_)
  ((refine Tr.step rfl ?_))
  refine Exec.call (A := [ownS 3 1 o.Al lack.length o.cl (intV lack)]) (F := box o.sb 84 _ :: ownS 45 1 o.Am _ _ _ :: rowsR rws :: F) rfl (sum_fn M [ownS 3 1 o.Al lack.length o.cl (intV lack)] o.Al o.cl lack hA1 (fun h => by
    cases hAl : o.Al with
    | none => exact absurd (List.eq_nil_of_length_eq_zero (hA2 hAl)) h
    | some a => rfl) (Src.own .here) (small_of (by omega) hlk)) (List.perm_middle (l₁ := [_, _, _])).symm rfl ?_
  rintro _ _ _ _ ⟨rfl, rfl, rfl⟩
  by_cases hs0 : 0 < lack.sum
  · repeat (first | ((with_reducible refine Tr.step rfl ?_); (first | (refine xmQ (z := ?_)) | (refine xiQ (z := ?_)))) | (with_reducible first | apply Tr.next | apply Tr.seq | apply Tr.region | apply Tr.nil) | (refine Tr.cond_t rfl (by (with_reducible assumption)) ?_))
    ((refine Tr.step rfl ?_)); refine Exec.call0 rfl (cutOf_fn M A0 A1 A2 c0 c1 c2 fits sup need hf hs hn hv) rfl ?_
    rintro _ M2 hm2 ⟨B, k, rfl, hI⟩
    repeat (first | ((with_reducible refine Tr.step rfl ?_); ((refine xaQ (z := ?_)))) | (with_reducible first | apply Tr.next | apply Tr.nil | apply Tr.ret | apply Tr.then_ret))
    (refine dnQ (hL := by exact ⟨[_, _, _, _], rfl⟩) (k := ⟨rfl, ?_⟩))
    exact .inr (.inl ⟨hv, fun h => by have := hL0.2 h; omega, B, k, rfl, hI⟩)
  have hz : lack.sum = 0 := by omega
  have hfl : Bf.Flow (pbOf fits sup need) (amt rws) fun _ => 0 := hfi.1.zero (hls.symm.trans hz)
  repeat (first | ((with_reducible refine Tr.step rfl ?_); (first | (refine xmQ (z := ?_)) | (refine xnQ (z := ?_)) | (refine xiQ (z := ?_)))) | (with_reducible first | apply Tr.next | apply Tr.seq | apply Tr.region | apply Tr.nil | apply Tr.skip | apply Tr.block) | (refine Tr.cond_f rfl (by (with_reducible assumption)) ?_))
  simp only [List.cons_append, List.nil_append]
  refine ftQ (r := rowsR _) (k := ?_)
  refine ftQ (r := ownS 45 1 _ _ _ _) (k := ?_)
  refine ftQ (r := box o.sb 84 _) (k := ?_)
  refine Tr.own_nil 45 1 ?_
  refine Tr.loop (α := Nat × List (Nat × List Int) × List Int × List Int × Mem × Option Addr × Nat × List Value) (fun y => ⟨72, [(36, .int .i64 (y.1 : Int)), (35, .int .i64 (sup.length : Int)), (6, .slice y.2.2.2.2.2.1 y.1 y.2.2.2.2.2.2.1), (10, .pointer (some ⟨o.sb, 0, none⟩)), (0, .slice A0 fits.length c0), (2, .slice A2 need.length c2)], [], y.2.2.2.2.1, ownS 45 1 y.2.2.2.2.2.1 y.1 y.2.2.2.2.2.2.1 y.2.2.2.2.2.2.2 :: (stL o (need.length + 1) y.2.1 lack y.2.2.1 y.2.2.2.1 ++ F)⟩)
    (fun y => y.1 ≤ sup.length ∧ Shape sup.length need.length bs y.2.1 ∧ y.2.2.1.length = 64 ∧ y.2.2.2.1.length = 65 ∧ (Bf.Flow (pbOf fits sup need) (amt y.2.1) fun _ => 0) ∧ LexTo (pbOf fits sup need) (amt y.2.1) y.1 0 ∧ Mem.le M y.2.2.2.2.1 ∧ y.2.2.2.2.2.2.1 ≤ 9223372036854775807 ∧ Elems 1 RRowI y.2.2.2.2.1 y.2.2.2.2.2.2.2 (allocOf (amt y.2.1) need.length y.1)) (fun y => sup.length - y.1) (0, rws, tk, gv, M, none, 0, []) ⟨Nat.zero_le _, hsh, ltk, lgv, hfl, LexTo.start _ _, Mem.le.refl _, by simp, Elems.nil⟩ hsQ (fun y hy => ?_)
  clear hsh ltk lgv hfl hfi hL hL0 hls hs0
  clear rws tk gv
  obtain ⟨i, rws, tk, gv, M1, A6, c6, cells⟩ := y
  obtain ⟨hi, hsh, ltk, lgv, hfl, hlex, hM, hc6, hel⟩ := hy
  simp only at hi hsh ltk lgv hfl hlex hM hc6 hel
  dsimp only
  have hcl : cells.length = i := by have := hel.1; simpa using this
  simp only [stL, List.cons_append, List.nil_append]
  by_cases hin : i < sup.length
  rotate_left
  · have ei : i = sup.length := by omega
    subst ei
    repeat (first | ((with_reducible refine Tr.step rfl ?_); (first | (refine xmQ (z := ?_)) | (refine xaQ (z := ?_)) | (refine xiQ (z := ?_)))) | (with_reducible first | apply Tr.next | apply Tr.seq | apply Tr.region | apply Tr.nil | apply Tr.exit | apply Tr.ret | apply Tr.then_exit) | ((with_reducible refine Tr.in_exit ?_ ?_); (exact rfl)) | (refine Tr.cond_f rfl (by first | (with_reducible assumption) | omega) ?_))
    refine pbQ (r := ownS 45 1 A6 _ _ _) (k := fun M2 hm2 hok => ?_)
    have hfin := hM.trans hm2
    have hI : Ints2 M2 (.slice A6 (allocOf (amt rws) need.length sup.length).length c6) (allocOf (amt rws) need.length sup.length) := SlOf.ofOwn hok (by simp) hc6 (hel.mono RRowI.mono hm2)
    (refine dnQ (hL := by exact ⟨[_, _, _, _], rfl⟩) (k := ⟨rfl, ?_⟩))
    exact .inr (.inr ⟨hv, amt rws, LexTo.max hlex hfl, A6, c6, by simp only [allocOf_length]; rfl, hI⟩)
  obtain ⟨frow, hfr⟩ := get_of_lt (xs := fits) (i := i) (by omega)
  have hfrl := hv.rows frow (List.mem_of_getElem? hfr)
  have hf1 : Fits2 M1 (.slice A0 fits.length c0) fits := hf.mono RRowB.mono hM
  obtain ⟨hA0, fch, fat, fB, fk, rfl, hfB⟩ := hf1.elem hfr
  repeat (first | ((with_reducible refine Tr.step rfl ?_); (first | (refine xmQ (z := ?_)) | (refine xaQ (z := ?_)) | (refine xnQ (z := ?_)) | (refine xiQ (z := ?_)))) | (with_reducible first | apply Tr.next | apply Tr.seq | apply Tr.region | apply Tr.nil | apply Tr.skip | apply Tr.block) | (refine Tr.cond_t rfl (by first | (with_reducible assumption) | omega) ?_))
  refine Tr.loop (α := Nat × List (Nat × List Int) × List Int × List Int) (fun y => ⟨72, [(41, .int .i64 (y.1 : Int)), (40, .int .i64 (need.length : Int)), (11, .int .i64 (i : Int)), (36, .int .i64 (i : Int)), (35, .int .i64 (sup.length : Int)), (6, .slice A6 i c6), (10, .pointer (some ⟨o.sb, 0, none⟩)), (0, .slice A0 fits.length c0), (2, .slice A2 need.length c2)], [], M1, ownS 45 1 A6 i c6 cells :: (stL o (need.length + 1) y.2.1 lack y.2.2.1 y.2.2.2 ++ F)⟩)
    (fun y => y.1 ≤ need.length ∧ Shape sup.length need.length bs y.2.1 ∧ y.2.2.1.length = 64 ∧ y.2.2.2.length = 65 ∧ (Bf.Flow (pbOf fits sup need) (amt y.2.1) fun _ => 0) ∧ LexTo (pbOf fits sup need) (amt y.2.1) i y.1 ∧ Elems 1 RRowI M1 cells (allocOf (amt y.2.1) need.length i)) (fun y => need.length - y.1) (0, rws, tk, gv) ⟨Nat.zero_le _, hsh, ltk, lgv, hfl, hlex, hel⟩ hsQ (fun y hy => ?_)
  clear hsh ltk lgv hfl hlex hel
  obtain ⟨j, rws, tk, gv⟩ := y
  obtain ⟨hj, hsh, ltk, lgv, hfl, hlex, hel⟩ := hy
  simp only at hj hsh ltk lgv hfl hlex hel
  dsimp only
  simp only [stL, List.cons_append, List.nil_append]
  by_cases hjn : j < need.length
  · obtain ⟨x, hx⟩ := get_of_lt (xs := frow) (i := j) (by omega)
    obtain ⟨hA, hat⟩ := hfB.at hx
    have hfx : (fits.getD i []).getD j false = x := by rw [getD_of (d := []) hfr, getD_of (d := false) hx]
    cases x
    · repeat (first | ((with_reducible refine Tr.step rfl ?_); (first | (refine xmQ (z := ?_)) | (refine xaQ (z := ?_)) | (refine xMQ (z := ?_)) | ((with_reducible refine Knd.binOp ?_); (first | (refine xdQ (z := ?_)) | (refine xiQ (z := ?_)))) | (refine xxQ (z := ?_)))) | (with_reducible first | apply Tr.next | apply Tr.seq | apply Tr.region | apply Tr.nil | apply Tr.skip | apply Tr.block | apply Tr.in_normal) | (refine Tr.cond_bf rfl (by (with_reducible rfl)) ?_) | (refine Tr.cond_t rfl (by first | (with_reducible assumption) | omega) ?_))
      refine Tr.again (j + 1, rws, tk, gv) ⟨by simp only; omega, hsh, ltk, lgv, hfl, hlex.skip hfl hin hjn hfx, hel⟩ (by simp only; omega) hsQ
    · repeat (first | ((with_reducible refine Tr.step rfl ?_); (first | (refine xmQ (z := ?_)) | (refine xaQ (z := ?_)) | (refine xMQ (z := ?_)) | (refine xiQ (z := ?_)) | (refine xxQ (z := ?_)))) | (with_reducible first | apply Tr.next | apply Tr.seq | apply Tr.region | apply Tr.nil | apply Tr.skip | apply Tr.block) | (refine Tr.cond_bt rfl (by (with_reducible rfl)) ?_) | (refine Tr.cond_t rfl (by first | (with_reducible assumption) | omega) ?_))
      ((refine Tr.step rfl ?_))
      refine Exec.call (A := stL o (need.length + 1) rws lack tk gv) (F := ownS 45 1 A6 i c6 cells :: F) rfl (raise_fn M1 o A0 c0 fits sup need hv hf1 ho ho1 ho2 bs rws lack tk gv hsh hll hfl ltk lgv i j hin hjn hfx) (List.perm_middle (l₁ := [_, _, _, _])) rfl ?_
      rintro _ _ _ _ ⟨rfl, rws', tk', gv', rfl, hsh', ltk', lgv', hra, htop⟩
      have hco : allocOf (amt rws') need.length i = allocOf (amt rws) need.length i := allocOf_congr fun k hk c _ => by rw [hra.2.1 k hk]
      repeat (first | ((with_reducible refine Tr.step rfl ?_); (first | (refine xmQ (z := ?_)) | (refine xdQ (z := ?_)))) | (with_reducible first | apply Tr.next | apply Tr.region | apply Tr.nil | apply Tr.in_normal))
      refine ftQ (r := ownS 45 1 A6 _ _ _) (k := ?_)
      refine Tr.again (j + 1, rws', tk', gv') ⟨by simp only; omega, hsh', ltk', lgv', hra.1, hlex.step hra htop hin hjn, by simp only [hco]; exact hel⟩ (by simp only; omega) hsQ
  have ej : j = need.length := by omega
  subst ej
  obtain ⟨⟨bi, row⟩, hr0⟩ := get_of_lt (xs := rws) (i := i) (by rw [hsh.n]; exact hin)
  have hrl : row.length = need.length + 1 := hsh.row _ (List.mem_of_getElem? hr0)
  have hp' : (ptrV (need.length + 1) rws)[i]? = some (.slice (some ⟨bi, 0, none⟩) (need.length + 1) (need.length + 1)) := by simp [ptrV, hr0]
  have hn' := hsh.n
  refine Tr.own_some o.Am (by repeat (first | exact Has.here | apply Has.there)) (by omega) (fun hAm => ?_)
  unfold rowsR
  refine Tr.many_out (by repeat (first | exact Del.here | apply Del.there)) (rows_get hr0) ?_
  repeat (first | ((with_reducible refine Tr.step rfl ?_); (first | (refine xmQ (z := ?_)) | ((with_reducible refine Knd.load ?_); (first | (refine xlQ (z := ?_)) | (refine Exec.stab rfl (Stab.loadO rfl (tysOk.get rfl) rfl (by repeat (first | exact Has.here | apply Has.there)) (by assumption)) rfl ?_))) | (refine xfQ (z := ?_)) | (refine xnQ (z := ?_)) | ((with_reducible refine Knd.nilCheck ?_); (refine Exec.stab rfl (Stab.nilCheck rfl) rfl ?_)) | (refine xiQ (z := ?_)) | (refine xxQ (z := ?_)) | ((with_reducible refine Knd.slice ?_); ((refine Exec.stab rfl (Stab.slice_h rfl rfl (tysOk.get rfl) rfl (tysOk.get rfl) (by omega) (by omega)) rfl ?_))))) | (with_reducible first | apply Tr.next | apply Tr.seq | apply Tr.region | apply Tr.nil | apply Tr.exit | apply Tr.then_exit) | ((with_reducible refine Tr.in_exit ?_ ?_); (exact rfl)) | (refine Tr.cond_f rfl (by first | (with_reducible assumption) | omega) ?_))
  rw [show ((need.length : Int)).toNat = (row.take need.length).length by simp; omega]
  have htk : row.take need.length = rowOf (amt rws) need.length i := row_take hr0 hrl
  have htl : (row.take need.length).length = need.length := by simp; omega
  have hcln := clone_lend M1 bi need.length row hrl l2
  ((refine Tr.step rfl ?_))
  refine Exec.call (A := [box bi 3 (intV row)]) rfl hcln (List.Perm.refl _) rfl ?_
  rintro _ _ _ _ ⟨A1, rfl, rfl, B, k, rfl, hk, rfl⟩
  simp only [List.cons_append, List.nil_append]
  refine pbQ (r := ownS 3 1 B _ _ _) (k := fun M2 hm2 hok => ?_)
  have hI : Ints M2 (.slice B (row.take need.length).length k) (row.take need.length) := Ints.ofOwn hok rfl hk
  refine Tr.many_in (rows_get hr0) ?_
  rw [rows_set, set_same hr0]
  refine ftQ (r := ownS 45 1 o.Am _ _ _) (k := ?_)
  refine ftQ (r := box o.sb 84 _) (k := ?_)
  repeat (((with_reducible refine Tr.step rfl ?_); (((with_reducible refine Knd.buildSlice ?_); ((refine Exec.buildSlice (tysOk.get rfl) rfl (tysOk.get rfl) rfl rfl rfl rfl rfl (by repeat (first | exact BuildP.nil | ((apply BuildP.one); (rfl); (rfl); (first | rfl | assumption); (repeat (first | exact SetL.z | apply SetL.s))))) rfl (fun b => ?_)))))))
  refine Tr.cells (cs' := [.slice B (row.take need.length).length k]) (by repeat (first | exact Upd.here | apply Upd.there)) rfl ?_
  ((refine Tr.step rfl ?_))
  refine Exec.append (A := A6) (news := [.slice B (row.take need.length).length k]) rfl rfl (tysOk.get rfl) rfl (tysOk.get rfl) rfl rfl rfl rfl (by repeat (first | exact Del.here | apply Del.there)) (Src.box (by repeat (first | exact Has.here | apply Has.there))) rfl (by intro u hu; simp at hu; subst hu; rfl) (by omega) (by omega) rfl (fun A7 c7 hc7 => ?_)
  have hel2 : Elems 1 RRowI M2 (cells ++ [.slice B (row.take need.length).length k]) (allocOf (amt rws) need.length (i + 1)) := by
    rw [allocOf_succ, ← htk]
    exact (hel.mono RRowI.mono hm2).append (Elems.one rfl ⟨B, k, rfl, hI⟩)
  repeat (first | ((with_reducible refine Tr.step rfl ?_); (first | (refine xmQ (z := ?_)) | (refine xaQ (z := ?_)) | (refine xdQ (z := ?_)))) | (with_reducible first | apply Tr.next | apply Tr.region | apply Tr.nil | apply Tr.in_normal))
  refine gvQ (r := box _ 45 [_]) (k := ?_)

  refine Tr.again (i + 1, rws, tk, gv, M2, A7, c7, cells ++ [.slice B (row.take need.length).length k]) ⟨by simp only; omega, hsh, ltk, lgv, hfl, hlex.row (Nat.le_refl _), hM.trans hm2, hc7, hel2⟩ (by simp only; omega) hsQ
end Go.Proofs.Ytgnipfjjkliibaa

/-
  Honour: between, require, serves.
  Conditions: none.
-/
namespace Go.Proofs.Ytgnipfjjkliibaa
open Go Bf
attribute [local irreducible] Tr Exec Stab HasTy Go.Addr.add IntKind.wrap
/-- a state in memory -/
def RSt (M : Mem) (v : Value) (x : Fx) (s : St) : Prop := ∃ Af cf Aa ca Ad cd An cn Au cu Ab cb, v = .agg #[.slice Af x.fits.length cf, .slice Aa s.am.length ca, .slice Ad s.dy.length cd, .slice An s.nd.length cn, .slice Au x.due.length cu, .slice Ab s.br.length cb] ∧
  Fits2 M (.slice Af x.fits.length cf) x.fits ∧ Ints M (.slice Aa s.am.length ca) s.am ∧ Ints M (.slice Ad s.dy.length cd) s.dy ∧ Ints M (.slice An s.nd.length cn) s.nd ∧ Ints M (.slice Au x.due.length cu) x.due ∧ Ints M (.slice Ab s.br.length cb) s.br
theorem RSt.mono {M M' : Mem} {v : Value} {x : Fx} {s : St} (h : RSt M v x s) (hm : Mem.le M M') : RSt M' v x s := by
  obtain ⟨Af, cf, Aa, ca, Ad, cd, An, cn, Au, cu, Ab, cb, rfl, h1, h2, h3, h4, h5, h6⟩ := h
  exact ⟨Af, cf, Aa, ca, Ad, cd, An, cn, Au, cu, Ab, cb, rfl, h1.mono RRowB.mono hm, h2.mono RI.mono hm, h3.mono RI.mono hm, h4.mono RI.mono hm, h5.mono RI.mono hm, h6.mono RI.mono hm⟩
theorem between_fn (M : Mem) (n lo hi : Int) : Fn0 Try.prog 33 [.int .i64 n, .int .i64 lo, .int .i64 hi] M (fun r M' => r = .bool (decide (lo ≤ n ∧ n ≤ hi)) ∧ M = M') := by
  refine Fn.intro Try.func33 rfl rfl Try.ntmps33 rfl fun E F => ?_
  by_cases h1 : lo ≤ n
  · repeat (first | ((with_reducible refine Tr.step rfl ?_); (first | (refine xmQ (z := ?_)) | (refine xaQ (z := ?_)) | (refine xiQ (z := ?_)) | ((with_reducible refine Knd.pick ?_); ((refine Exec.stab rfl (Stab.pick_td rfl (by (with_reducible assumption)) rfl) rfl ?_))))) | (with_reducible first | apply Tr.next | apply Tr.seq | apply Tr.region | apply Tr.nil) | ((refine Tr.guard_y rfl rfl rfl (by (with_reducible assumption)) ?_); (first | (refine xmQ (z := ?_)) | (refine xiQ (z := ?_)))) | (with_reducible refine Tr.ret ?_))
    (refine dnQ (hL := by exact ⟨[], rfl⟩) (k := ⟨rfl, ?_⟩))
    refine ⟨?_, rfl⟩
    rw [show decide (lo ≤ n ∧ n ≤ hi) = decide (n ≤ hi) from decide_eq_decide.2 ⟨fun h => h.2, fun h => ⟨h1, h⟩⟩]
    rfl
  · repeat (first | ((with_reducible refine Tr.step rfl ?_); (first | (refine xmQ (z := ?_)) | (refine xaQ (z := ?_)) | (refine xiQ (z := ?_)) | ((with_reducible refine Knd.pick ?_); ((refine Exec.stab rfl (Stab.pick_fd rfl (by (with_reducible assumption)) rfl) rfl ?_))))) | (with_reducible first | apply Tr.next | apply Tr.seq | apply Tr.region | apply Tr.nil) | (refine Tr.guard_n rfl rfl rfl (by (with_reducible assumption)) rfl rfl ?_) | (with_reducible refine Tr.ret ?_))
    (refine dnQ (hL := by exact ⟨[], rfl⟩) (k := ⟨rfl, ?_⟩))
    refine ⟨?_, rfl⟩
    rw [show decide (lo ≤ n ∧ n ≤ hi) = false from decide_eq_false (fun h => h1 h.1)]
    rfl
/-- what refuse panics with -/
def refCh : List PanicEntry := [{ v := .iface 31 (.int .i64 330), recovered := false }]
theorem refuse_fn (M : Mem) : FnP Try.prog 77 [] M [] (fun _ _ _ => False) (fun ch M' A' => ch = refCh ∧ A' = [] ∧ M = M') := by
  refine FnP.intro Try.func77 rfl rfl Try.ntmps77 rfl fun E F => ?_
  repeat (first | ((with_reducible refine Tr.step rfl ?_); (first | ((with_reducible refine Knd.makeInterface ?_); (refine Exec.stab rfl (Stab.makeIface rfl (by kernel_rfl)) rfl ?_)) | ((with_reducible refine Knd.panic ?_); (refine Exec.panic rfl ?_)))) | (with_reducible refine Tr.region ?_))
  exact Tr.doneP (A' := []) (Mem.le.refl _) (by repeat (first | exact DropL.refl | apply DropL.skip)) ⟨rfl, rfl, rfl⟩
theorem require_y (M : Mem) : Fn0 Try.prog 52 [.bool true] M (fun _ M' => M = M') := by
  refine Fn.intro Try.func52 rfl rfl Try.ntmps52 rfl fun E F => ?_
  repeat (first | ((with_reducible refine Tr.step rfl ?_); (first | (refine xmQ (z := ?_)) | ((with_reducible refine Knd.unOp ?_); ((refine Exec.stab rfl (Stab.not rfl) rfl ?_))))) | (with_reducible first | apply Tr.next | apply Tr.seq | apply Tr.region | apply Tr.nil | apply Tr.skip) | (refine Tr.cond_bf rfl (by first | (with_reducible rfl) | (with_reducible exact Bool.not_true)) ?_))
  (refine Tr.done (by first | exact .inl rfl | exact .inr rfl) rfl (by repeat (exact RVs.nil)) (by first | exact Mem.le.refl _ | assumption) (by exact ⟨[], rfl⟩) ⟨rfl, ?_⟩)
  rfl
theorem require_n (M : Mem) : FnP Try.prog 52 [.bool false] M [] (fun _ _ _ => False) (fun ch M' A' => ch = refCh ∧ A' = [] ∧ M = M') := by
  refine FnP.intro Try.func52 rfl rfl Try.ntmps52 rfl fun E F => ?_
  repeat (first | ((with_reducible refine Tr.step rfl ?_); (first | (refine xmQ (z := ?_)) | ((with_reducible refine Knd.unOp ?_); ((refine Exec.stab rfl (Stab.not rfl) rfl ?_))))) | (with_reducible first | apply Tr.next | apply Tr.seq | apply Tr.region | apply Tr.nil) | (refine Tr.cond_bt rfl (by first | (with_reducible rfl) | (with_reducible exact Bool.not_false)) ?_))
  ((refine Tr.step rfl ?_))
  refine Exec.callP rfl (refuse_fn M) (List.Perm.refl _) rfl (fun v M' A' hm hR => hR.elim) (fun ch M' A' hm hR => ?_)
  obtain ⟨rfl, rfl, rfl⟩ := hR
  repeat (fail)
  exact Tr.doneP (A' := []) (Mem.le.refl _) (by repeat (first | exact DropL.refl | apply DropL.skip)) ⟨rfl, rfl, rfl⟩
theorem hserves_fn (M : Mem) (v : Value) (x : Fx) (s : St) (i j : Nat) (h : RSt M v x s) (hi : i < x.fits.length) (hi2 : i < s.dy.length) (hj : j < x.due.length) (hr : ∀ r ∈ x.fits, r.length = x.due.length) :
    Fn0 Try.prog 73 [v, .int .i64 (i : Int), .int .i64 (j : Int)] M (fun r M' => r = .bool ((x.fits.getD i []).getD j false && decide (s.dy.getD i 0 ≤ x.due.getD j 0)) ∧ M = M') := by
  obtain ⟨Af, cf, Aa, ca, Ad, cd, An, cn, Au, cu, Ab, cb, rfl, h1, h2, h3, h4, h5, h6⟩ := h
  obtain ⟨row, hrow⟩ := get_of_lt hi
  have hrl := hr row (List.mem_of_getElem? hrow)
  obtain ⟨hA1, ch, hat1, Ar, kr, rfl, hb⟩ := h1.elem hrow
  obtain ⟨t, ht⟩ := get_of_lt (xs := row) (i := j) (by omega)
  obtain ⟨hA2, hat2⟩ := hb.at ht
  obtain ⟨d, hd⟩ := get_of_lt hi2
  obtain ⟨hA3, hat3⟩ := h3.at hd
  obtain ⟨u, hu⟩ := get_of_lt hj
  obtain ⟨hA4, hat4⟩ := h5.at hu
  rw [getD_of hrow, getD_of ht, getD_of hd, getD_of hu]
  refine Fn.intro Try.func73 rfl rfl Try.ntmps73 rfl fun E F => ?_
  cases t
  · repeat (first | ((with_reducible refine Tr.step rfl ?_); (first | (refine xaQ (z := ?_)) | ((with_reducible refine Knd.box ?_); ((refine Exec.box rfl rfl (fun b => ?_)))))) | (with_reducible first | apply Tr.next | apply Tr.seq | apply Tr.region | apply Tr.nil))
    (((apply Tr.draw); (kernel_rfl)); (refine tkQ 0 (hB := by exact fun _ h => h) (s := by exact sfQ) (h := ?_)); (refine tkQ 2 (s := by exact Stab.move rfl) (h := ?_)); (refine tkQ 5 (s := by exact Stab.move rfl) (h := ?_)); (refine tkQ 1 (s := by exact slQ) (h := ?_)); (refine tkQ 3 (s := by exact sxQ) (h := ?_)); (refine tkQ 4 (s := by exact sMQ) (h := ?_)); (refine tkQ 6 (s := by exact sxQ) (h := ?_)); (refine tkQ 7 (s := by exact sMQ) (h := ?_)); (refine tkQ 8 (s := by exact Stab.move rfl) (h := ?_)); ((refine tuQ 9 (h := ?_))); ((refine tuQ 11 (h := ?_))); ((refine tuQ 14 (h := ?_))); ((refine tuQ 16 (h := ?_))); ((refine tuQ 10 (h := ?_))); ((refine tuQ 15 (h := ?_))); ((refine tuQ 12 (h := ?_))); ((refine tuQ 17 (h := ?_))); ((refine tuQ 13 (h := ?_))); ((refine tuQ 18 (h := ?_))); ((refine tuQ 19 (h := ?_))); (refine tkQ 20 (s := by exact Stab.pick_f rfl (by (with_reducible rfl)) rfl) (h := ?_)); (refine tkQ 21 (s := by exact Stab.assign rfl) (h := ?_)); (refine TrA.done (by kernel_rfl) ?_))
    repeat (first | (with_reducible first | apply Tr.next | apply Tr.ret))
    (refine dnQ (hL := by exact ⟨[_], rfl⟩) (k := ⟨rfl, ?_⟩))
    exact ⟨rfl, rfl⟩
  · repeat (first | ((with_reducible refine Tr.step rfl ?_); (first | (refine xaQ (z := ?_)) | ((with_reducible refine Knd.box ?_); ((refine Exec.box rfl rfl (fun b => ?_)))))) | (with_reducible first | apply Tr.next | apply Tr.seq | apply Tr.region | apply Tr.nil))
    (((apply Tr.draw); (kernel_rfl)); (refine tkQ 0 (hB := by exact fun _ h => h) (s := by exact sfQ) (h := ?_)); (refine tkQ 2 (s := by exact Stab.move rfl) (h := ?_)); (refine tkQ 5 (s := by exact Stab.move rfl) (h := ?_)); (refine tkQ 1 (s := by exact slQ) (h := ?_)); (refine tkQ 3 (s := by exact sxQ) (h := ?_)); (refine tkQ 4 (s := by exact sMQ) (h := ?_)); (refine tkQ 6 (s := by exact sxQ) (h := ?_)); (refine tkQ 7 (s := by exact sMQ) (h := ?_)); (refine tkQ 8 (s := by exact Stab.move rfl) (h := ?_)); ((refine tgQ 9 (s := by exact sfQ) (h := ?_))); ((refine tgQ 11 (s := by exact Stab.move rfl) (h := ?_))); ((refine tgQ 14 (s := by exact sfQ) (h := ?_))); ((refine tgQ 16 (s := by exact Stab.move rfl) (h := ?_))); ((refine tgQ 10 (s := by exact slQ) (h := ?_))); ((refine tgQ 15 (s := by exact slQ) (h := ?_))); ((refine tgQ 12 (s := by exact sxQ) (h := ?_))); ((refine tgQ 17 (s := by exact sxQ) (h := ?_))); ((refine tgQ 13 (s := by exact sMQ) (h := ?_))); ((refine tgQ 18 (s := by exact sMQ) (h := ?_))); ((refine tgQ 19 (s := by exact siQ) (h := ?_))); (refine tkQ 20 (s := by exact Stab.pick_t rfl (by (with_reducible rfl)) rfl) (h := ?_)); (refine tkQ 21 (s := by exact Stab.assign rfl) (h := ?_)); (refine TrA.done (by kernel_rfl) ?_))
    repeat (first | (with_reducible first | apply Tr.next | apply Tr.ret))
    (refine dnQ (hL := by exact ⟨[_], rfl⟩) (k := ⟨rfl, ?_⟩))
    exact ⟨rfl, rfl⟩
end Go.Proofs.Ytgnipfjjkliibaa

/-
  Matching: the contract of copyRows; rows of truth values that are owned, lent.
  Conditions: none.
-/
namespace Go.Proofs.Ytgnipfjjkliibaa
open Go Bf
attribute [local irreducible] Tr Exec Stab HasTy Go.Addr.add IntKind.wrap
/-- a row of truth values that is owned -/
abbrev RowC := Option Addr × Nat × List Bool
def rowC (x : RowC) : Res := ownS 4 1 x.1 x.2.2.length x.2.1 (boV x.2.2)
def ptrC (l : List RowC) : List Value := l.map fun x => .slice x.1 x.2.2.length x.2.1
theorem ptrC_append (a b : List RowC) : ptrC (a ++ b) = ptrC a ++ ptrC b := by simp [ptrC]
@[simp] theorem ptrC_length (a : List RowC) : (ptrC a).length = a.length := by simp [ptrC]
theorem ptrC_one (l : List RowC) : ∀ u ∈ ptrC l, u.oneCell' = true := by
  intro u hu
  obtain ⟨x, _, rfl⟩ := List.mem_map.1 hu
  rfl
theorem boV_one (l : List Bool) : ∀ u ∈ boV l, u.oneCell' = true := by
  intro u hu
  obtain ⟨x, _, rfl⟩ := List.mem_map.1 hu
  rfl
theorem boV_elems (M : Mem) (l : List Bool) : Elems 1 RBo M (boV l) l := by
  refine ⟨by simp, fun i x hx => ?_⟩
  show _ = _
  rw [Nat.mul_one, List.take_one, List.head?_drop, boV_get hx]
  rfl
theorem boV_cells {M : Mem} {cells : List Value} {l : List Bool} (h : Elems 1 RBo M cells l) : cells = boV l := by
  apply List.ext_getElem?
  intro i
  have hl := h.1
  rw [Nat.mul_one] at hl
  by_cases hi : i < l.length
  · have := h.2 i l[i] (by simp [hi])
    have e : cells[i]? = some (.bool l[i]) := by
      have : (cells.drop (i * 1)).take 1 = [.bool l[i]] := this
      rw [Nat.mul_one, List.take_one, List.head?_drop] at this
      cases hc : cells[i]? with
      | none => rw [hc] at this; cases this
      | some v => rw [hc] at this; simp at this; rw [this]
    rw [e, boV_get (x := l[i]) (by simp [hi])]
  · rw [List.getElem?_eq_none (by omega), List.getElem?_eq_none (by simp; omega)]
theorem Bools.row {M : Mem} {A : Option Addr} {n c : Nat} {l : List Bool} (h : Bools M (.slice A n c) l) : Row M A l.length 1 (boV l) ∧ l.length ≤ c ∧ c ≤ 9223372036854775807 ∧ (A = none → l.length = 0) := by
  obtain ⟨cells, h1, h2, h3, h4, hr, he⟩ := h.cells
  exact ⟨boV_cells he ▸ hr, h2, h3, h4⟩
theorem rowsC_fits {M : Mem} {B : Option Addr} {k : Nat} {cs : List RowC} (h : (ownS 60 1 B cs.length k (ptrC cs)).ok M) (hk : k ≤ 9223372036854775807) (hm : (many (cs.map rowC)).ok M) (hc : ∀ x ∈ cs, x.2.1 ≤ 9223372036854775807) : Fits2 M (.slice B (cs.map (·.2.2)).length k) (cs.map (·.2.2)) := by
  refine SlOf.ofOwn h (by simp) hk ⟨by simp, fun i x hx => ?_⟩
  rw [List.getElem?_map] at hx
  cases hi : cs[i]? with
  | none => rw [hi] at hx; cases hx
  | some y =>
    rw [hi] at hx
    simp at hx
    subst hx
    have hy := List.mem_of_getElem? hi
    have hok : (rowC y).ok M := hm _ (List.mem_map_of_mem hy)
    refine ⟨y.1, y.2.1, ?_, SlOf.ofOwn hok rfl (hc y hy) (boV_elems M _)⟩
    rw [Nat.mul_one, List.take_one, List.head?_drop]
    simp [ptrC, hi]
set_option maxHeartbeats 4000000 in
theorem copyRows_fn (M : Mem) (A : Option Addr) (c : Nat) (l : List (List Bool)) (hl : Fits2 M (.slice A l.length c) l) (hs : l.length ≤ 64) (hr : ∀ r ∈ l, r.length ≤ 64) :
    Bf.Fn Try.prog 64 [.slice A l.length c] M [] (fun r M' A' => ∃ B k cs, r = .slice B l.length k ∧ k ≤ 9223372036854775807 ∧ cs.map (·.2.2) = l ∧ (∀ x ∈ cs, x.2.1 ≤ 9223372036854775807) ∧ M = M' ∧ A' = [ownS 60 1 B l.length k (ptrC cs), many (cs.map rowC)]) := by
  refine Fn.intro Try.func64 rfl rfl Try.ntmps64 rfl fun E F => ?_
  repeat (first | ((with_reducible refine Tr.step rfl ?_); (first | (refine xaQ (z := ?_)) | ((with_reducible refine Knd.buildSlice ?_); ((refine Exec.buildSlice (tysOk.get rfl) rfl (tysOk.get rfl) rfl rfl rfl rfl rfl (by repeat (exact BuildP.nil)) rfl (fun b => ?_)))))) | (with_reducible first | apply Tr.next | apply Tr.seq | apply Tr.region | apply Tr.nil | apply Tr.block))
  refine Tr.box_own 1 0 (by repeat (first | exact Upd.here | apply Upd.there)) rfl (by intro u hu; cases hu) (by simp [maxLen]) ?_
  refine Tr.many_new ?_
  refine Tr.loop (α := Nat × Option Addr × Nat × List RowC) (fun y => ⟨22, [(4, .int .i64 (y.1 : Int)), (3, .slice y.2.1 y.1 y.2.2.1), (0, .slice A l.length c)], [], M, many (y.2.2.2.map rowC) :: ownS 60 1 y.2.1 y.1 y.2.2.1 (ptrC y.2.2.2) :: ([] ++ F)⟩)
    (fun y => y.1 ≤ l.length ∧ y.2.2.1 ≤ 9223372036854775807 ∧ y.2.2.2.map (·.2.2) = l.take y.1 ∧ ∀ x ∈ y.2.2.2, x.2.1 ≤ 9223372036854775807) (fun y => l.length - y.1) (0, _, 0, []) ⟨Nat.zero_le _, by simp, rfl, by simp⟩ hsQ (fun y hy => ?_)
  obtain ⟨i, B, k, cs⟩ := y
  obtain ⟨hi, hk, hcs, hcap⟩ := hy
  simp only at hi hk hcs hcap
  dsimp only
  have hcl : cs.length = i := by
    have := congrArg List.length hcs
    simpa [Nat.min_eq_left hi] using this
  by_cases hin : i < l.length
  rotate_left
  · have ei : i = l.length := by omega
    subst ei
    rw [List.take_length] at hcs
    repeat (first | ((with_reducible refine Tr.step rfl ?_); (first | (refine xmQ (z := ?_)) | (refine xaQ (z := ?_)) | (refine xnQ (z := ?_)) | (refine xiQ (z := ?_)))) | (with_reducible first | apply Tr.next | apply Tr.seq | apply Tr.region | apply Tr.nil | apply Tr.exit | apply Tr.ret | apply Tr.then_exit) | ((with_reducible refine Tr.in_exit ?_ ?_); (exact rfl)) | (refine Tr.cond_f rfl (by first | (with_reducible assumption) | omega) ?_))
    refine ftQ (r := ownS 60 1 _ _ _ _) (k := ?_)
    refine Tr.doneA (A' := [ownS 60 1 B l.length k (ptrC cs), many (cs.map rowC)]) (by first | exact .inl rfl | exact .inr rfl) rfl (by repeat (first | exact RVs.nil | (apply RVs.cons; (exact RV.tmp rfl)))) (Mem.le.refl _) ⟨fun _ h => h, fun h => h⟩ ⟨B, k, cs, rfl, hk, hcs, hcap, rfl, rfl⟩
  obtain ⟨r, hr1⟩ := get_of_lt hin
  have hrl := hr r (List.mem_of_getElem? hr1)
  obtain ⟨hA, ch, hat, rB, rk, rfl, hB⟩ := hl.elem hr1
  have hBr := Bools.row hB
  repeat (first | ((with_reducible refine Tr.step rfl ?_); (first | (refine xmQ (z := ?_)) | (refine xMQ (z := ?_)) | (refine xnQ (z := ?_)) | (refine xiQ (z := ?_)) | (refine xxQ (z := ?_)) | ((with_reducible refine Knd.buildSlice ?_); ((refine Exec.buildSlice (tysOk.get rfl) rfl (tysOk.get rfl) rfl rfl rfl rfl rfl (by repeat (exact BuildP.nil)) rfl (fun b => ?_)))))) | (with_reducible first | apply Tr.next | apply Tr.seq | apply Tr.region | apply Tr.nil | apply Tr.skip | apply Tr.block) | (refine Tr.cond_t rfl (by first | (with_reducible assumption) | omega) ?_))
  refine Tr.box_own (e := 4) 1 0 (by repeat (first | exact Upd.here | apply Upd.there)) rfl (by intro u hu; cases hu) (by simp [maxLen]) ?_
  ((refine Tr.step rfl ?_))
  refine Exec.append (news := boV r) rfl rfl (tysOk.get rfl) rfl (tysOk.get rfl) rfl rfl rfl rfl (by repeat (first | exact Del.here | apply Del.there)) (Src.row hBr.1) (by simp) (boV_one _) (by omega) (by omega) rfl (fun A6 c6 hc6 => ?_)
  rw [zeros0_app, Nat.zero_add]
  refine Tr.many_add ?_
  rw [show cs.map rowC ++ [ownS 4 1 A6 r.length c6 (boV r)] = (cs ++ [(A6, c6, r)]).map rowC by simp [rowC]]
  repeat (((with_reducible refine Tr.step rfl ?_); (((with_reducible refine Knd.buildSlice ?_); ((refine Exec.buildSlice (tysOk.get rfl) rfl (tysOk.get rfl) rfl rfl rfl rfl rfl (by repeat (first | exact BuildP.nil | ((apply BuildP.one); (rfl); (rfl); (first | rfl | assumption); (repeat (first | exact SetL.z | apply SetL.s))))) rfl (fun b => ?_)))))))
  refine Tr.cells (cs' := ptrC [(A6, c6, r)]) (by repeat (first | exact Upd.here | apply Upd.there)) rfl ?_
  ((refine Tr.step rfl ?_))
  refine Exec.append (news := ptrC [(A6, c6, r)]) rfl rfl (tysOk.get rfl) rfl (tysOk.get rfl) rfl rfl rfl rfl (by repeat (first | exact Del.here | apply Del.there)) (Src.box (by repeat (first | exact Has.here | apply Has.there))) rfl (ptrC_one _) (by omega) (by omega) rfl (fun A7 c7 hc7 => ?_)
  rw [← ptrC_append]
  repeat (first | ((with_reducible refine Tr.step rfl ?_); (first | (refine xmQ (z := ?_)) | (refine xaQ (z := ?_)) | (refine xdQ (z := ?_)))) | (with_reducible first | apply Tr.next | apply Tr.region | apply Tr.nil | apply Tr.in_normal))
  refine gvQ (r := box _ 60 _) (k := ?_)
  refine ftQ (r := many _) (k := ?_)
  refine Tr.again (i + 1, A7, c7, cs ++ [(A6, c6, r)]) ⟨by simp only; omega, hc7, by simp [hcs, List.take_add_one, hr1], fun x hx => ?_⟩ (by simp only; omega) hsQ
  rcases List.mem_append.1 hx with hx | hx
  · exact hcap x hx
  · simp at hx; subst hx; exact hc6
end Go.Proofs.Ytgnipfjjkliibaa

/-
  Honour: serving.
  Conditions: none.
-/
namespace Go.Proofs.Ytgnipfjjkliibaa
open Go Bf
attribute [local irreducible] Tr Exec Stab HasTy Go.Addr.add IntKind.wrap
theorem boV_app (a b : List Bool) : boV (a ++ b) = boV a ++ boV b := by simp [boV]
/-- a row of the table -/
def rowT (x : Fx) (s : St) (i : Nat) : List Bool := (List.range x.due.length).map fun j => (x.fits.getD i []).getD j false && decide (s.dy.getD i 0 ≤ x.due.getD j 0)
theorem rowT_length (x : Fx) (s : St) (i : Nat) : (rowT x s i).length = x.due.length := by simp [rowT]
theorem rowT_take (x : Fx) (s : St) (i j : Nat) (h : j < x.due.length) : (rowT x s i).take (j + 1) = (rowT x s i).take j ++ [(x.fits.getD i []).getD j false && decide (s.dy.getD i 0 ≤ x.due.getD j 0)] := by
  rw [List.take_add_one]
  congr 1
  simp [rowT, h]
theorem tabL_rows (x : Fx) (s : St) : tabL x.fits x.due s.dy = (List.range s.dy.length).map (rowT x s) := rfl
theorem set_mid {α : Type} (a : List α) (n i : Nat) (z v : α) (ha : a.length = i) (hi : i < n) : (a ++ List.replicate (n - i) z).set i v = (a ++ [v]) ++ List.replicate (n - (i + 1)) z := by
  rw [List.set_append_right _ _ (by omega), ha, Nat.sub_self, show n - i = (n - (i + 1)) + 1 by omega, List.replicate_succ, List.set_cons_zero, List.append_assoc]
  rfl
set_option maxHeartbeats 4000000 in
theorem serving_fn (M : Mem) (v : Value) (x : Fx) (s : St) (h : RSt M v x s) (hf : Fit x s) :
    Fn0 Try.prog 49 [v] M (fun r M' => ∃ A c, r = .slice A (tabL x.fits x.due s.dy).length c ∧ Fits2 M' (.slice A (tabL x.fits x.due s.dy).length c) (tabL x.fits x.due s.dy)) := by
  have hS := h
  obtain ⟨Af, cf, Aa, ca, Ad, cd, An, cn, Au, cu, Ab, cb, rfl, h1, h2, h3, h4, h5, h6⟩ := h
  have l1 := hf.l64
  have l2 := hf.r64
  have l3 := hf.dyl
  have l4 := hf.dul
  have l5 := hf.fil
  have hrow : ∀ r ∈ x.fits, r.length = x.due.length := fun r hr => by rw [l4]; exact hf.row r hr
  refine Fn.intro Try.func49 rfl rfl Try.ntmps49 rfl fun E F => ?_
  repeat (first | ((with_reducible refine Tr.step rfl ?_); (first | (refine xmQ (z := ?_)) | (refine xaQ (z := ?_)) | (refine xlQ (z := ?_)) | (refine xfQ (z := ?_)) | (refine xnQ (z := ?_)) | ((with_reducible refine Knd.box ?_); ((refine Exec.box rfl rfl (fun b => ?_)))) | ((with_reducible refine Knd.makeSlice ?_); (refine Exec.make rfl rfl (tysOk.get rfl) rfl (tysOk.get rfl) rfl rfl rfl (by omega) (by omega) (by first | omega | (simp; done) | (simp; omega)) (by omega) rfl (fun b => ?_))))) | (with_reducible first | apply Tr.next | apply Tr.seq | apply Tr.region | apply Tr.nil | apply Tr.block))
  generalize b = bo
  rename_i bs
  refine Tr.loop (α := Nat × Mem × List Value) (fun y => ⟨43, [(12, .int .i64 (y.1 : Int)), (11, .int .i64 (s.am.length : Int)), (3, .slice (some ⟨bo, 0, none⟩) s.am.length s.am.length), (1, .pointer (some ⟨bs, 0, none⟩))], [], y.2.1, box bo 60 (y.2.2 ++ List.replicate (s.am.length - y.1) (.slice none 0 0)) :: box bs 64 [.slice Af x.fits.length cf, .slice Aa s.am.length ca, .slice Ad s.dy.length cd, .slice An s.nd.length cn, .slice Au x.due.length cu, .slice Ab s.br.length cb] :: ([] ++ F)⟩)
    (fun y => y.1 ≤ s.am.length ∧ Mem.le M y.2.1 ∧ y.2.2.length = y.1 ∧ Elems 1 RRowB y.2.1 y.2.2 ((List.range y.1).map (rowT x s))) (fun y => s.am.length - y.1) (0, M, []) ⟨Nat.zero_le _, Mem.le.refl _, rfl, Elems.nil⟩ hsQ (fun y hy => ?_)
  obtain ⟨i, M1, cs⟩ := y
  obtain ⟨hi, hm1, hcl, hel⟩ := hy
  simp only at hi hm1 hcl hel
  dsimp only
  by_cases hlt : i < s.am.length
  rotate_left
  · have e : i = s.am.length := by omega
    subst e
    rw [Nat.sub_self, List.replicate_zero, List.append_nil]
    repeat (first | ((with_reducible refine Tr.step rfl ?_); (first | (refine xmQ (z := ?_)) | (refine xaQ (z := ?_)) | (refine xiQ (z := ?_)))) | (with_reducible first | apply Tr.next | apply Tr.seq | apply Tr.region | apply Tr.nil | apply Tr.exit | apply Tr.ret | apply Tr.then_exit) | ((with_reducible refine Tr.in_exit ?_ ?_); (exact rfl)) | (refine Tr.cond_f rfl (by first | (with_reducible assumption) | omega) ?_))
    refine pbQ (r := box bo _ _) (k := fun M2 hm2 hok => ?_)
    have hlast := hm1.trans hm2
    (refine dnQ (hL := by exact ⟨[_], rfl⟩) (k := ⟨rfl, ?_⟩))
    rw [tabL_rows, l3]
    have ht := SlOf.ofBox hok (fun u hu => ?_) (by simp; omega) (hel.mono RRowB.mono hm2)
    · rw [List.length_map, List.length_range] at ht ⊢
      exact ⟨_, _, rfl, ht⟩
    · obtain ⟨j, hj, rfl⟩ := List.getElem_of_mem hu
      obtain ⟨A9, k9, e9, -⟩ := hel.2 j _ (List.getElem?_eq_getElem (by simp; omega))
      rw [Nat.mul_one, List.take_one, List.head?_drop, List.getElem?_eq_getElem hj] at e9
      simp at e9
      rw [e9]
      rfl
  have hlen : (cs ++ List.replicate (s.am.length - i) (Value.slice none 0 0)).length = s.am.length := by simp; omega
  have hset := fun (v : Value) => set_mid cs s.am.length i (Value.slice none 0 0) v hcl hlt
  repeat (first | ((with_reducible refine Tr.step rfl ?_); (first | (refine xmQ (z := ?_)) | (refine xaQ (z := ?_)) | (refine xlQ (z := ?_)) | (refine xfQ (z := ?_)) | (refine xnQ (z := ?_)) | (refine xiQ (z := ?_)) | ((with_reducible refine Knd.store ?_); ((refine Exec.storeS rfl rfl (tysOk.get rfl) rfl (by first | rfl | assumption) (by repeat (first | exact Upd.here | apply Upd.there)) (by omega) ?_))) | ((with_reducible refine Knd.indexAddr ?_); ((refine Exec.stab rfl (Stab.indexB0 rfl rfl (tysOk.get rfl) rfl (tysOk.get rfl) rfl (by omega) (by omega)) rfl ?_))) | ((with_reducible refine Knd.makeSlice ?_); (refine Exec.make rfl rfl (tysOk.get rfl) rfl (tysOk.get rfl) rfl rfl rfl (by omega) (by omega) (by first | omega | (simp; done) | (simp; omega)) (by omega) rfl (fun b => ?_))))) | (with_reducible first | apply Tr.next | apply Tr.seq | apply Tr.region | apply Tr.nil | apply Tr.skip | apply Tr.block) | (refine Tr.cond_t rfl (by first | (with_reducible assumption) | omega) ?_))
  generalize b = bi
  simp only [Int.toNat_natCast]
  rw [hset]
  have hv : nthL (cs ++ [Value.slice (some ⟨bi, 0, none⟩) s.nd.length s.nd.length] ++ List.replicate (s.am.length - (i + 1)) (Value.slice none 0 0)) i = some (Value.slice (some ⟨bi, 0, none⟩) s.nd.length s.nd.length) := by
    rw [nthL_eq, List.append_assoc, List.getElem?_append_right (by omega), hcl, Nat.sub_self]
    rfl
  generalize hcs : cs ++ [Value.slice (some ⟨bi, 0, none⟩) s.nd.length s.nd.length] ++ List.replicate (s.am.length - (i + 1)) (Value.slice none 0 0) = cs2 at hv
  repeat (first | ((with_reducible refine Tr.step rfl ?_); (first | (refine xmQ (z := ?_)) | ((with_reducible refine Knd.load ?_); ((refine Exec.stab rfl (Stab.load rfl (tysOk.get rfl) rfl (by repeat (first | exact Has.here | apply Has.there)) (by assumption)) rfl ?_))) | (refine xnQ (z := ?_)))) | (with_reducible first | apply Tr.next | apply Tr.nil | apply Tr.block))
  refine Tr.loop (α := Nat) (fun y => ⟨43, [(27, .int .i64 (y : Int)), (26, .int .i64 (s.nd.length : Int)), (4, .int .i64 (i : Int)), (12, .int .i64 (i : Int)), (11, .int .i64 (s.am.length : Int)), (3, .slice (some ⟨bo, 0, none⟩) s.am.length s.am.length), (1, .pointer (some ⟨bs, 0, none⟩))], [], M1, box bi 4 (boV ((rowT x s i).take y) ++ List.replicate (s.nd.length - y) (.bool false)) :: box bo 60 cs2 :: box bs 64 [.slice Af x.fits.length cf, .slice Aa s.am.length ca, .slice Ad s.dy.length cd, .slice An s.nd.length cn, .slice Au x.due.length cu, .slice Ab s.br.length cb] :: ([] ++ F)⟩)
    (fun y => y ≤ s.nd.length) (fun y => s.nd.length - y) 0 (Nat.zero_le _) hsQ (fun y hy => ?_)
  by_cases hlt2 : y < s.nd.length
  · have hsv := hserves_fn M1 _ x s i y (hS.mono hm1) (by omega) (by omega) (by omega) hrow
    have htk := rowT_take x s i y (by omega)
    have hbl : (boV ((rowT x s i).take y)).length = y := by rw [boV_length, List.length_take, rowT_length]; omega
    have hlen2 : (boV ((rowT x s i).take y) ++ List.replicate (s.nd.length - y) (Value.bool false)).length = s.nd.length := by rw [List.length_append, hbl, List.length_replicate]; omega
    have hset2 := fun (v : Value) => set_mid (boV ((rowT x s i).take y)) s.nd.length y (Value.bool false) v hbl hlt2
    generalize hq : ((x.fits.getD i []).getD y false && decide (s.dy.getD i 0 ≤ x.due.getD y 0)) = q at hsv htk
    repeat (first | ((with_reducible refine Tr.step rfl ?_); (first | (refine xmQ (z := ?_)) | (refine xaQ (z := ?_)) | (refine xiQ (z := ?_)))) | (with_reducible first | apply Tr.next | apply Tr.seq | apply Tr.region | apply Tr.nil | apply Tr.skip | apply Tr.block) | (refine Tr.cond_t rfl (by first | (with_reducible assumption) | omega) ?_))
    (((apply Tr.draw ((box bo 60 _ :: _))); (kernel_rfl)); (refine tkQ 0 (hB := by exact (Sub.mem (by repeat (first | exact Sub.refl | apply Sub.cons)))) (s := by exact Stab.move rfl) (h := ?_)); (refine tkQ 1 (s := by exact Stab.move rfl) (h := ?_)); (refine tkQ 4 (s := by exact Stab.move rfl) (h := ?_)); (refine tkQ 5 (s := by exact swQ) (h := ?_)); (refine tkQ 6 (s := by exact Stab.move rfl) (h := ?_)); (refine tkQ 7 (s := by exact Stab.move rfl) (h := ?_)); (refine tkQ 2 (s := by exact Stab.indexB0 rfl rfl (tysOk.get rfl) rfl (tysOk.get rfl) rfl (by omega) (by omega)) (h := ?_)); (refine tkQ 3 (s := by exact Stab.load rfl (tysOk.get rfl) rfl (by repeat (first | exact Has.here | apply Has.there)) (by assumption)) (h := ?_)); (refine TrA.eff 8 rfl (by kernel_rfl) (by exact .inl rfl) ?_))
    refine Exec.call0 rfl hsv rfl ?_
    rintro _ _ _ ⟨rfl, rfl⟩
    refine ⟨Mem.le.refl _, (by exact (Sub.mem (by repeat (first | exact Sub.refl | apply Sub.cons)))), ?_⟩
    ((refine tkQ 9 (s := by exact Stab.indexB0 rfl rfl (tysOk.get rfl) rfl (tysOk.get rfl) rfl (by omega) (by omega)) (h := ?_)); (refine TrA.eff 10 rfl (by kernel_rfl) (by exact .inl rfl) ?_); (((refine Knd.store ?_); ((refine Exec.storeS rfl rfl (tysOk.get rfl) rfl (by first | rfl | assumption) (by repeat (first | exact Upd.here | apply Upd.there)) (by omega) ?_)))); (refine ⟨(by first | exact Mem.le.refl _ | assumption), (by exact (Sub.mem (by repeat (first | exact Sub.refl | apply Sub.cons)))), ?_⟩); (refine TrA.done (by kernel_rfl) ?_))
    rw [Int.toNat_natCast y, hset2, show boV ((rowT x s i).take y) ++ [Value.bool q] = boV ((rowT x s i).take (y + 1)) by rw [htk, boV_app]; rfl]
    repeat (first | ((with_reducible refine Tr.step rfl ?_); (first | (refine xmQ (z := ?_)) | (refine xdQ (z := ?_)))) | (with_reducible first | apply Tr.next | apply Tr.region | apply Tr.nil | apply Tr.in_normal))
    exact Tr.again (y + 1) (by omega) (by omega) hsQ
  have e : y = s.nd.length := by omega
  subst e
  rw [Nat.sub_self, List.replicate_zero, List.append_nil, List.take_of_length_le (by rw [rowT_length]; omega)]
  repeat (first | ((with_reducible refine Tr.step rfl ?_); (first | (refine xmQ (z := ?_)) | ((with_reducible refine Knd.binOp ?_); (first | (refine xdQ (z := ?_)) | (refine xiQ (z := ?_)))))) | (with_reducible first | apply Tr.next | apply Tr.seq | apply Tr.region | apply Tr.nil | apply Tr.exit | apply Tr.then_exit | apply Tr.in_normal) | ((with_reducible refine Tr.in_exit ?_ ?_); (exact rfl)) | (refine Tr.cond_f rfl (by first | (with_reducible assumption) | omega) ?_))
  refine pbQ (r := box bi 4 _) (k := fun M2 hm2 hok => ?_)
  have hB : Bools M2 (.slice (some ⟨bi, 0, none⟩) (rowT x s i).length (rowT x s i).length) (rowT x s i) := SlOf.ofBox hok (boV_one _) (by rw [rowT_length]; omega) (boV_elems M2 _)
  rw [rowT_length, l4] at hB
  rw [← hcs]
  refine Tr.again (i + 1, M2, cs ++ [Value.slice (some ⟨bi, 0, none⟩) s.nd.length s.nd.length]) ⟨by simp only; omega, hm1.trans hm2, by simp only [List.length_append, List.length_singleton]; omega, ?_⟩ (by simp only; omega) hsQ
  simp only
  rw [List.range_succ, List.map_append]
  exact (hel.mono RRowB.mono hm2).append (Elems.one rfl ⟨_, _, by rw [rowT_length, l4], by rw [rowT_length, l4]; exact hB⟩)
end Go.Proofs.Ytgnipfjjkliibaa

/-
  Honour: is it possible to meet requests together?
  Conditions: none.
-/
namespace Go.Proofs.Ytgnipfjjkliibaa
open Go Bf
attribute [local irreducible] Tr Exec Stab HasTy Go.Addr.add IntKind.wrap
theorem isLack_feas {p : Pb} {L : Int} (h : IsLack p L) (hs : ∀ k, k < p.n → 0 ≤ p.sup k) (hn : ∀ b, b < p.m → 0 ≤ p.need b) : L = 0 ↔ Feas p := by
  have h0 : lackOf p (fun _ => false) = 0 := by
    unfold lackOf
    have e1 : sumN p.m (fun b => if (fun _ => false) b = true then p.need b else 0) = 0 := sumN_zero fun _ _ => rfl
    have e2 : sumN p.n (fun k => if touches p (fun _ => false) k = true then p.sup k else 0) = 0 := sumN_zero fun k _ => by
      rw [if_neg]
      rw [touches_iff]
      rintro ⟨b, -, hb, -⟩
      cases hb
    rw [e1, e2]; rfl
  rw [feas_iff hs hn]
  constructor
  · rintro rfl D
    exact h.2 D
  · intro hD
    obtain ⟨⟨D, hL⟩, h2⟩ := h
    have h3 := h2 fun _ => false
    have h4 := hD D
    omega
theorem vld_feas {fits : List (List Bool)} {sup need : List Int} (hv : Vld fits sup need) {L : Int} (h : IsLack (pbOf fits sup need) L) : L = 0 ↔ Feas (pbOf fits sup need) := by
  obtain ⟨-, -, -, -, h5, h6⟩ := hv
  exact isLack_feas h (fun k _ => (getD_rng h5 k).1) (fun b _ => (getD_rng h6 b).1)
theorem take_sum {l : List Int} {i : Nat} {x : Int} (h : l[i]? = some x) : (l.take (i + 1)).sum = (l.take i).sum + x := by
  rw [List.take_add_one, h, List.sum_append]
  simp
theorem take_sum_rng {l : List Int} (hl : l.length ≤ 64) (h : ∀ x ∈ l, 0 ≤ x ∧ x ≤ 1048576) (i : Nat) : 0 ≤ (l.take i).sum ∧ (l.take i).sum ≤ 67108864 :=
  sum_rng (by rw [List.length_take]; omega) fun x hx => h x (List.mem_of_mem_take hx)
set_option maxHeartbeats 4000000 in
theorem possible_own (M : Mem) (bm b6 b5 b2 : Nat) (At_ : Option Addr) (ct : Nat) (v0 v2 v3 v4 v5 : Value) (Aa : Option Addr) (ca : Nat) (tab : List (List Bool)) (am met : List Int) (ht : Fits2 M (.slice At_ tab.length ct) tab) (ha : Ints M (.slice Aa am.length ca) am) (hv : Vld tab am met) :
    Bf.Fn Try.prog 82 [.pointer (some ⟨b6, 0, none⟩), .pointer (some ⟨b5, 0, none⟩), .pointer (some ⟨b2, 0, none⟩)] M
      [box bm 3 (intV met), box b6 45 [.slice (some ⟨bm, 0, none⟩) met.length met.length], box b5 24 [.slice At_ tab.length ct], box b2 64 [v0, .slice Aa am.length ca, v2, v3, v4, v5]]
      (fun r M' A' => M = M' ∧ A' = [box bm 3 (intV met), box b6 45 [.slice (some ⟨bm, 0, none⟩) met.length met.length], box b5 24 [.slice At_ tab.length ct], box b2 64 [v0, .slice Aa am.length ca, v2, v3, v4, v5]] ∧ ∃ q, r = .bool q ∧ (q = true ↔ Feas (pbOf tab am met))) := by
  have hv' := hv
  obtain ⟨w1, w2, w3, w4, w5, w6⟩ := hv'
  refine Fn.intro Try.func82 rfl rfl Try.ntmps82 rfl fun E F => ?_
  repeat (first | ((with_reducible refine Tr.step rfl ?_); (first | (refine xmQ (z := ?_)) | (refine xaQ (z := ?_)) | (refine xlQ (z := ?_)) | (refine xnQ (z := ?_)))) | (with_reducible first | apply Tr.next | apply Tr.seq | apply Tr.region | apply Tr.nil | apply Tr.block))
  refine Tr.loop (α := Nat) (fun y => ⟨34, [(11, .int .i64 (y : Int)), (10, .int .i64 (met.length : Int)), (9, .slice (some ⟨bm, 0, none⟩) met.length met.length), (4, .int .i64 (met.take y).sum), (0, .pointer (some ⟨b6, 0, none⟩)), (1, .pointer (some ⟨b5, 0, none⟩)), (2, .pointer (some ⟨b2, 0, none⟩))], [], M, _⟩) (fun y => y ≤ met.length) (fun y => met.length - y) 0 (Nat.zero_le _) hsQ (fun y hy => ?_)
  by_cases hlt : y < met.length
  · obtain ⟨z, hz⟩ := get_of_lt hlt
    have hst := take_sum hz
    have r1 := take_sum_rng w2 w6 y
    have r2 := take_sum_rng w2 w6 (y + 1)
    have hnv : nthL (intV met) (y : Int).toNat = some (.int .i64 z) := by rw [nthL_eq, Int.toNat_natCast]; exact intV_get hz
    repeat (first | ((with_reducible refine Tr.step rfl ?_); (first | (refine xmQ (z := ?_)) | (refine xaQ (z := ?_)) | ((with_reducible refine Knd.load ?_); ((refine Exec.stab rfl (Stab.load rfl (tysOk.get rfl) rfl (by repeat (first | exact Has.here | apply Has.there)) (by assumption)) rfl ?_))) | ((with_reducible refine Knd.binOp ?_); (first | (refine xdQ (z := ?_)) | (refine xiQ (z := ?_)))) | ((with_reducible refine Knd.indexAddr ?_); ((refine Exec.stab rfl (Stab.indexB0 rfl rfl (tysOk.get rfl) rfl (tysOk.get rfl) rfl (by omega) (by omega)) rfl ?_))))) | (with_reducible first | apply Tr.next | apply Tr.seq | apply Tr.region | apply Tr.nil | apply Tr.skip | apply Tr.block | apply Tr.in_normal) | (refine Tr.cond_t rfl (by first | (with_reducible assumption) | (with_reducible rfl) | (with_reducible exact (not_not_intro rfl)) | omega) ?_))
    rw [← hst]
    exact Tr.again (y + 1) (by omega) (by omega) hsQ
  have e : y = met.length := by omega
  subst e
  rw [List.take_length]
  have hmost : Bf.Fn Try.prog 83 [.slice At_ tab.length ct, .slice Aa am.length ca, .slice (some ⟨bm, 0, none⟩) met.length met.length] M [box bm 3 (intV met)] (fun r M' A' => A' = [box bm 3 (intV met)] ∧ M = M' ∧ ∃ L, r = .tuple #[.int .i64 (met.sum - L), .int .i64 0] ∧ IsLack (pbOf tab am met) L) :=
    Fn.lend (most2_fn M none none none 0 0 0 [] [] [] (SlOf.nil _ _ _) (SlOf.nil _ _ _) (SlOf.nil _ _ _) (by intro x hx; cases hx) (by intro x hx; cases hx)).1 fun M' hm hok => by
      have hI := Ints.ofBox (hok _ List.mem_cons_self) (by omega)
      refine Fn0.mono (most2_fn M' At_ Aa (some ⟨bm, 0, none⟩) ct ca met.length tab am met (ht.mono RRowB.mono hm) (ha.mono RI.mono hm) hI (fun x hx => by have := w5 x hx; omega) (fun x hx => by have := w6 x hx; omega)) fun v M'' _ h => ?_
      obtain ⟨h1, rfl⟩ := h
      rcases h1 with ⟨h1, -⟩ | ⟨-, L, rfl, hL⟩
      · rw [vld_iff.2 hv] at h1; cases h1
      · exact ⟨⟨L, rfl, hL⟩, rfl⟩
  repeat (first | ((with_reducible refine Tr.step rfl ?_); (first | (refine xlQ (z := ?_)) | (refine xfQ (z := ?_)) | (refine xiQ (z := ?_)))) | (with_reducible first | apply Tr.next | apply Tr.seq | apply Tr.region | apply Tr.nil | apply Tr.exit | apply Tr.then_exit) | ((with_reducible refine Tr.in_exit ?_ ?_); (exact rfl)) | (refine Tr.cond_f rfl (by first | (with_reducible assumption) | (with_reducible rfl) | (with_reducible exact (not_not_intro rfl)) | omega) ?_))
  ((refine Tr.step rfl ?_))
  refine Exec.call (A := [box bm 3 (intV met)]) rfl hmost (List.Perm.refl _) rfl ?_
  rintro _ _ _ - ⟨rfl, rfl, L, rfl, hL⟩
  repeat (first | ((with_reducible refine Tr.step rfl ?_); (first | (refine xmQ (z := ?_)) | (refine xaQ (z := ?_)) | (refine xiQ (z := ?_)) | ((with_reducible refine Knd.pick ?_); ((refine Exec.stab rfl (Stab.pick_td rfl (by first | (with_reducible assumption) | (with_reducible rfl) | (with_reducible exact (not_not_intro rfl)) | omega) rfl) rfl ?_))) | ((with_reducible refine Knd.extract ?_); (refine Exec.stab rfl (Stab.extract rfl rfl) rfl ?_)))) | (with_reducible first | apply Tr.next | apply Tr.seq | apply Tr.region | apply Tr.nil) | ((refine Tr.guard_y rfl rfl rfl (by first | (with_reducible assumption) | (with_reducible rfl) | (with_reducible exact (not_not_intro rfl)) | omega) ?_); (first | (refine xmQ (z := ?_)) | (refine xiQ (z := ?_)))) | (with_reducible refine Tr.ret ?_))
  refine Tr.doneA (A' := [box bm 3 (intV met), box b6 45 [.slice (some ⟨bm, 0, none⟩) met.length met.length], box b5 24 [.slice At_ tab.length ct], box b2 64 [v0, .slice Aa am.length ca, v2, v3, v4, v5]]) (by first | exact .inl rfl | exact .inr rfl) rfl (by repeat (first | exact RVs.nil | (apply RVs.cons; (exact RV.tmp rfl)))) (Mem.le.refl _) ⟨fun _ h => h, fun h => h⟩ ⟨rfl, rfl, _, rfl, ?_⟩
  have := vld_feas hv hL
  rw [← this]
  rw [decide_eq_true_iff]
  omega
end Go.Proofs.Ytgnipfjjkliibaa

/-
  Honour: failing.
  Conditions: none.
-/
namespace Go.Proofs.Ytgnipfjjkliibaa
open Go Bf
attribute [local irreducible] Tr Exec Stab HasTy Go.Addr.add IntKind.wrap
theorem perm4 {α : Type} (a b c d e : α) (F : List α) : (a :: b :: c :: d :: e :: F).Perm (b :: c :: d :: e :: a :: F) := (List.perm_middle (l₁ := [b, c, d, e]) (l₂ := F)).symm
theorem mskL_ext {nd : List Int} {S T : Nat → Bool} (h : ∀ b, b < nd.length → S b = T b) : mskL nd S = mskL nd T := by
  unfold mskL
  refine List.map_congr_left fun j hj => ?_
  rw [h j (List.mem_range.1 hj)]
theorem ext_getD {l m : List Int} (hl : l.length = m.length) (h : ∀ i, i < l.length → l.getD i 0 = m.getD i 0) : l = m := by
  apply List.ext_getElem hl
  intro i h1 h2
  have := h i h1
  rwa [List.getD_eq_getElem?_getD, List.getD_eq_getElem?_getD, List.getElem?_eq_getElem h1, List.getElem?_eq_getElem h2] at this
theorem setD (l : List Int) (i k : Nat) (v : Int) (h : i < l.length) : (l.set i v).getD k 0 = if k = i then v else l.getD k 0 := by
  rw [List.getD_eq_getElem?_getD, List.getD_eq_getElem?_getD]
  by_cases e : k = i
  · subst e; rw [if_pos rfl, List.getElem?_set_self h]; rfl
  · rw [if_neg e, List.getElem?_set_ne (by omega)]
theorem mskL_add {nd : List Int} {S : Nat → Bool} {j : Nat} (hj : j < nd.length) : (mskL nd S).set j (nd.getD j 0) = mskL nd (fun b => S b || decide (b = j)) := by
  refine ext_getD (by rw [List.length_set, mskL_length, mskL_length]) fun i hi => ?_
  rw [setD _ _ _ _ (by rw [mskL_length]; exact hj), mskL_getD, mskL_getD]
  by_cases e : i = j
  · subst e; simp
  · simp [e]
theorem mskL_del {nd : List Int} {S : Nat → Bool} {j : Nat} (hj : j < nd.length) (hS : S j = false) : (mskL nd (fun b => S b || decide (b = j))).set j 0 = mskL nd S := by
  refine ext_getD (by rw [List.length_set, mskL_length, mskL_length]) fun i hi => ?_
  rw [setD _ _ _ _ (by rw [mskL_length]; exact hj), mskL_getD, mskL_getD]
  by_cases e : i = j
  · subst e; simp [hS]
  · simp [e]
theorem mskL_none (nd : List Int) : mskL nd (fun _ => false) = List.replicate nd.length 0 := by
  refine ext_getD (by rw [mskL_length, List.length_replicate]) fun i hi => ?_
  rw [mskL_getD]
  rw [mskL_length] at hi
  simp [List.getD_eq_getElem?_getD, hi]
theorem vld_tab {x : Fx} {s : St} (hf : Fit x s) (S : Nat → Bool) : Vld (tabL x.fits x.due s.dy) s.am (mskL s.nd S) := by
  refine ⟨hf.l64, by rw [mskL_length]; exact hf.r64, by rw [tabL_length]; exact hf.dyl, fun r hr => by rw [tabL_row hr, mskL_length]; exact hf.dul, hf.amr, fun a ha => ?_⟩
  simp only [mskL, List.mem_map, List.mem_range] at ha
  obtain ⟨j, hj, rfl⟩ := ha
  split
  · exact getD_rng hf.ndr j
  · exact ⟨Int.le_refl _, by decide⟩
def nats_ (l : List Nat) : List Int := l.map (fun n : Nat => (n : Int))
theorem nats__length (l : List Nat) : (nats_ l).length = l.length := by simp [nats_]
theorem nats__snoc (l : List Nat) (n : Nat) : nats_ (l ++ [n]) = nats_ l ++ [(n : Int)] := by simp [nats_]
theorem askF_iff {s : St} {j : Nat} {a : Int} (h : s.br[j]? = some a) : askF s j = decide (a < 0) := by
  have hj := (List.getElem?_eq_some_iff.1 h).1
  rw [askF, getD_of h]
  simp [hj]
theorem failF_succ (x : Fx) (s : St) (j : Nat) : failF x s (j + 1) = failF x s j ++ if (askF s j && !acc (srvP x s) (askF s) (j + 1) j) = true then [j] else [] := failL_succ j
set_option maxHeartbeats 16000000 in
theorem failing_own (M : Mem) (v : Value) (x : Fx) (s : St) (e : Nat) (h : RSt M v x s) (hf : Fit x s) (he : e ≤ s.nd.length) :
    Bf.Fn Try.prog 59 [v, .int .i64 (e : Int)] M [] (fun r _ A' => ∃ A c, c ≤ 9223372036854775807 ∧ r = .slice A (failF x s e).length c ∧ A' = [ownS 3 1 A (failF x s e).length c (intV (nats_ (failF x s e)))]) := by
  have hS := h
  obtain ⟨Af, cf, Aa, ca, Ad, cd, An, cn, Au, cu, Ab, cb, rfl, h1, h2, h3, h4, h5, h6⟩ := h
  have l1 := hf.l64
  have l2 := hf.r64
  have l3 := hf.brl
  refine Fn.intro Try.func59 rfl rfl Try.ntmps59 rfl fun E F => ?_
  repeat (first | ((with_reducible refine Tr.step rfl ?_); (first | (refine xaQ (z := ?_)) | (refine xwQ (z := ?_)) | ((with_reducible refine Knd.box ?_); ((refine Exec.box rfl rfl (fun b => ?_)))))) | (with_reducible first | apply Tr.next | apply Tr.seq | apply Tr.region | apply Tr.nil))
  ((refine Tr.step rfl ?_)); refine Exec.call0 rfl (serving_fn M _ x s hS hf) rfl ?_
  rintro _ M1 hm1 ⟨At_, ct, rfl, ht⟩
  have hvl := fun S => vld_tab hf S
  have hpos := fun (bm b6 b5 b2 : Nat) (S : Nat → Bool) => possible_own M1 bm b6 b5 b2 At_ ct (.slice Af x.fits.length cf) (.slice Ad s.dy.length cd) (.slice An s.nd.length cn) (.slice Au x.due.length cu) (.slice Ab s.br.length cb) Aa ca (tabL x.fits x.due s.dy) s.am (mskL s.nd S) ht (h2.mono RI.mono hm1) (hvl S)
  have hpos' : ∀ (bm b6 b5 b2 : Nat) (S : Nat → Bool), Bf.Fn Try.prog 82 [.pointer (some ⟨b6, 0, none⟩), .pointer (some ⟨b5, 0, none⟩), .pointer (some ⟨b2, 0, none⟩)] M1
      [box bm 3 (intV (mskL s.nd S)), box b6 45 [.slice (some ⟨bm, 0, none⟩) s.nd.length s.nd.length], box b5 24 [.slice At_ (tabL x.fits x.due s.dy).length ct], box b2 64 [.slice Af x.fits.length cf, .slice Aa s.am.length ca, .slice Ad s.dy.length cd, .slice An s.nd.length cn, .slice Au x.due.length cu, .slice Ab s.br.length cb]]
      (fun r M' A' => M1 = M' ∧ A' = [box bm 3 (intV (mskL s.nd S)), box b6 45 [.slice (some ⟨bm, 0, none⟩) s.nd.length s.nd.length], box b5 24 [.slice At_ (tabL x.fits x.due s.dy).length ct], box b2 64 [.slice Af x.fits.length cf, .slice Aa s.am.length ca, .slice Ad s.dy.length cd, .slice An s.nd.length cn, .slice Au x.due.length cu, .slice Ab s.br.length cb]] ∧ ∃ q, r = .bool q ∧ (q = true ↔ srvP x s S)) := fun bm b6 b5 b2 S => by
    have := hpos bm b6 b5 b2 S
    rw [mskL_length] at this
    exact this
  clear hpos
  generalize (tabL x.fits x.due s.dy).length = nt at hpos'
  repeat (first | ((with_reducible refine Tr.step rfl ?_); (first | (refine xmQ (z := ?_)) | (refine xaQ (z := ?_)) | (refine xlQ (z := ?_)) | (refine xfQ (z := ?_)) | (refine xnQ (z := ?_)) | ((with_reducible refine Knd.makeFunc ?_); (refine Exec.stab rfl (Stab.makeFunc rfl rfl) rfl ?_)) | (refine xSQ (z := ?_)) | ((with_reducible refine Knd.alloc ?_); ((refine Exec.alloc1 (tysOk.get rfl) rfl rfl rfl (fun b => ?_)))) | ((with_reducible refine Knd.makeSlice ?_); (refine Exec.make rfl rfl (tysOk.get rfl) rfl (tysOk.get rfl) rfl rfl rfl (by omega) (by omega) (by first | omega | (simp; done) | (simp; omega)) (by omega) rfl (fun b => ?_))))) | (with_reducible first | apply Tr.next | apply Tr.seq | apply Tr.region | apply Tr.nil | apply Tr.block))
  simp only [Int.toNat_natCast]
  rename_i b2 b5 bm
  generalize b = b6
  refine ftQ (r := box bm 3 _) (k := ?_)
  have hz0 : List.replicate s.nd.length (Value.int .i64 0) = intV (mskL s.nd fun b => decide (b < 0) && askF s b) := by
    rw [mskL_ext (T := fun _ => false) (fun b _ => by simp), mskL_none]
    simp [intV]
  rw [hz0]
  refine Tr.loop (α := Nat) (fun y => ⟨69, [(18, .int .i64 (y : Int)), (17, .int .i64 (e : Int)), (7, .func (.func 82) #[] #[.pointer (some ⟨b6, 0, none⟩), .pointer (some ⟨b5, 0, none⟩), .pointer (some ⟨b2, 0, none⟩)]), (6, .pointer (some ⟨b6, 0, none⟩)), (5, .pointer (some ⟨b5, 0, none⟩)), (4, .slice none 0 0), (2, .pointer (some ⟨b2, 0, none⟩)), (1, .int .i64 (e : Int))], [], M1,
      box bm 3 (intV (mskL s.nd fun b => decide (b < y) && askF s b)) :: box b6 45 [.slice (some ⟨bm, 0, none⟩) s.nd.length s.nd.length] :: box b5 24 [.slice At_ nt ct] :: box b2 64 [.slice Af x.fits.length cf, .slice Aa s.am.length ca, .slice Ad s.dy.length cd, .slice An s.nd.length cn, .slice Au x.due.length cu, .slice Ab s.br.length cb] :: ([] ++ F)⟩)
    (fun y => y ≤ e) (fun y => e - y) 0 (Nat.zero_le _) hsQ (fun y hy => ?_)
  by_cases hlt : y < e
  · obtain ⟨z, hz⟩ := get_of_lt (xs := s.br) (i := y) (by omega)
    obtain ⟨hA6, hat6⟩ := Ints.at (h6.mono RI.mono hm1) hz
    have hask := askF_iff hz
    by_cases hz0 : z < 0
    · obtain ⟨u, hu⟩ := get_of_lt (xs := s.nd) (i := y) (by omega)
      obtain ⟨hA4, hat4⟩ := Ints.at (h4.mono RI.mono hm1) hu
      have hlen : (intV (mskL s.nd fun b => decide (b < y) && askF s b)).length = s.nd.length := by rw [intV_length, mskL_length]
      have hnew : (intV (mskL s.nd fun b => decide (b < y) && askF s b)).set y (.int .i64 u) = intV (mskL s.nd fun b => decide (b < y + 1) && askF s b) := by
        rw [intV_set, show u = s.nd.getD y 0 from (getD_of hu).symm, mskL_add (by omega)]
        refine congrArg intV (mskL_ext fun b _ => ?_)
        by_cases e1 : b = y
        · subst e1; simp [hask, hz0]
        · by_cases e2 : b < y
          · simp [e1, e2, show b < y + 1 by omega]
          · simp [e1, e2, show ¬ b < y + 1 by omega]
      repeat (first | ((with_reducible refine Tr.step rfl ?_); (first | (refine xmQ (z := ?_)) | (refine xaQ (z := ?_)) | ((with_reducible refine Knd.load ?_); (first | (refine xlQ (z := ?_)) | (refine xMQ (z := ?_)))) | (refine xfQ (z := ?_)) | (refine xiQ (z := ?_)) | (refine xxQ (z := ?_)))) | (with_reducible first | apply Tr.next | apply Tr.seq | apply Tr.region | apply Tr.nil | apply Tr.skip | apply Tr.block) | (refine Tr.cond_t rfl (by first | (with_reducible assumption) | omega) ?_))
      (((apply Tr.draw ((box b6 45 _ :: _))); (kernel_rfl)); (refine tkQ 0 (hB := by exact (Sub.mem (by repeat (first | exact Sub.refl | apply Sub.cons)))) (s := by exact slQ) (h := ?_)); (refine tkQ 1 (s := by exact Stab.move rfl) (h := ?_)); (refine tkQ 2 (s := by exact sfQ) (h := ?_)); (refine tkQ 4 (s := by exact Stab.move rfl) (h := ?_)); (refine tkQ 3 (s := by exact slQ) (h := ?_)); (refine tkQ 5 (s := by exact sxQ) (h := ?_)); (refine tkQ 6 (s := by exact sMQ) (h := ?_)); (refine tkQ 7 (s := by exact Stab.indexB0 rfl rfl (tysOk.get rfl) rfl (tysOk.get rfl) rfl (by omega) (by omega)) (h := ?_)); (refine TrA.eff 8 rfl (by kernel_rfl) (by exact .inl rfl) ?_); (((refine Knd.store ?_); ((refine Exec.storeS rfl rfl (tysOk.get rfl) rfl (by first | rfl | assumption) (by repeat (first | exact Upd.here | apply Upd.there)) (by omega) ?_)))); (refine ⟨(by first | exact Mem.le.refl _ | assumption), (by exact (Sub.mem (by repeat (first | exact Sub.refl | apply Sub.cons)))), ?_⟩); (refine TrA.done (by kernel_rfl) ?_))
      rw [Int.toNat_natCast y, hnew]
      repeat (first | ((with_reducible refine Tr.step rfl ?_); (first | (refine xmQ (z := ?_)) | (refine xdQ (z := ?_)))) | (with_reducible first | apply Tr.next | apply Tr.region | apply Tr.nil | apply Tr.in_normal))
      exact Tr.again (y + 1) (by omega) (by omega) hsQ
    · have hnew : mskL s.nd (fun b => decide (b < y) && askF s b) = mskL s.nd fun b => decide (b < y + 1) && askF s b := mskL_ext fun b _ => by
        by_cases e1 : b = y
        · subst e1; simp [hask, hz0]
        · by_cases e2 : b < y
          · simp [e2, show b < y + 1 by omega]
          · simp [e2, show ¬ b < y + 1 by omega]
      rw [hnew]
      repeat (first | ((with_reducible refine Tr.step rfl ?_); (first | (refine xmQ (z := ?_)) | (refine xaQ (z := ?_)) | ((with_reducible refine Knd.load ?_); (first | (refine xlQ (z := ?_)) | (refine xMQ (z := ?_)))) | (refine xfQ (z := ?_)) | ((with_reducible refine Knd.binOp ?_); (first | (refine xdQ (z := ?_)) | (refine xiQ (z := ?_)))) | (refine xxQ (z := ?_)))) | (with_reducible first | apply Tr.next | apply Tr.seq | apply Tr.region | apply Tr.nil | apply Tr.skip | apply Tr.block | apply Tr.in_normal) | (refine Tr.cond_t rfl (by first | (with_reducible assumption) | omega) ?_) | (refine Tr.cond_f rfl (by (with_reducible assumption)) ?_))
      exact Tr.again (y + 1) (by omega) (by omega) hsQ
  have ey : y = e := by omega
  subst ey
  repeat (first | ((with_reducible refine Tr.step rfl ?_); (first | (refine xmQ (z := ?_)) | (refine xiQ (z := ?_)))) | (with_reducible first | apply Tr.next | apply Tr.seq | apply Tr.region | apply Tr.nil | apply Tr.exit | apply Tr.then_exit) | ((with_reducible refine Tr.in_exit ?_ ?_); (exact rfl)) | (refine Tr.cond_f rfl (by first | (with_reducible assumption) | omega) ?_))
  ((refine Tr.step rfl ?_))
  refine Exec.callv (first := []) (cap := [.pointer (some ⟨b6, 0, none⟩), .pointer (some ⟨b5, 0, none⟩), .pointer (some ⟨b2, 0, none⟩)]) (A := [box bm 3 _, box b6 _ _, box b5 _ _, box b2 _ _]) rfl rfl (hpos' bm b6 b5 b2 fun b => decide (b < y) && askF s b) (List.Perm.refl _) rfl ?_
  rintro _ _ _ - ⟨rfl, rfl, q, rfl, hq⟩
  cases q
  rotate_left
  · have hnil : failF x s y = [] := failL_all (fun S T h hS => srvP_mono hf.amr S T h hS) (hq.1 rfl)
    repeat (first | ((with_reducible refine Tr.step rfl ?_); ((refine xaQ (z := ?_)))) | (with_reducible first | apply Tr.next | apply Tr.seq | apply Tr.region | apply Tr.nil | apply Tr.ret | apply Tr.then_ret) | (refine Tr.cond_bt rfl (by (with_reducible rfl)) ?_))
    refine Tr.own_nil 3 1 ?_
    refine Tr.doneB (A' := [ownS 3 1 none 0 0 []]) [box bm 3 _, box b6 _ _, box b5 _ _, box b2 _ _] (by first | exact .inl rfl | exact .inr rfl) rfl (by repeat (first | exact RVs.nil | (apply RVs.cons; (exact RV.tmp rfl)))) hm1 (perm4 _ _ _ _ _ _) ?_
    rw [hnil]
    exact ⟨none, 0, by decide, rfl, rfl⟩
  repeat (first | ((with_reducible refine Tr.step rfl ?_); ((refine xlQ (z := ?_)))) | (with_reducible first | apply Tr.next | apply Tr.seq | apply Tr.region | apply Tr.nil | apply Tr.skip) | (refine Tr.cond_bf rfl (by (with_reducible rfl)) ?_))
  simp only [List.cons_append, List.nil_append]
  ((refine Tr.step rfl ?_))
  refine Exec.clear rfl (tysOk.get rfl) rfl (tysOk.get rfl) rfl rfl rfl (by repeat (first | exact Upd.here | apply Upd.there)) (by rw [intV_length, mskL_length]) ?_
  have hz1 : List.replicate s.nd.length (Value.int .i64 0) = intV (mskL s.nd (acc (srvP x s) (askF s) 0)) := by
    rw [show acc (srvP x s) (askF s) 0 = fun _ => false from rfl, mskL_none]
    simp [intV]
  rw [hz1]
  refine Tr.own_nil 3 1 ?_
  repeat (first | ((with_reducible refine Tr.step rfl ?_); ((refine xmQ (z := ?_)))) | (with_reducible first | apply Tr.next | apply Tr.seq | apply Tr.region | apply Tr.nil | apply Tr.block))
  refine Tr.loop (α := Nat × Option Addr × Nat) (fun z => ⟨69, [(40, .int .i64 (z.1 : Int)), (39, .int .i64 (y : Int)), (7, .func (.func 82) #[] #[.pointer (some ⟨b6, 0, none⟩), .pointer (some ⟨b5, 0, none⟩), .pointer (some ⟨b2, 0, none⟩)]), (6, .pointer (some ⟨b6, 0, none⟩)), (5, .pointer (some ⟨b5, 0, none⟩)), (4, .slice z.2.1 (failF x s z.1).length z.2.2), (2, .pointer (some ⟨b2, 0, none⟩))], [], M1,
      ownS 3 1 z.2.1 (failF x s z.1).length z.2.2 (intV (nats_ (failF x s z.1))) :: box bm 3 (intV (mskL s.nd (acc (srvP x s) (askF s) z.1))) :: box b6 45 [.slice (some ⟨bm, 0, none⟩) s.nd.length s.nd.length] :: box b5 24 [.slice At_ nt ct] :: box b2 64 [.slice Af x.fits.length cf, .slice Aa s.am.length ca, .slice Ad s.dy.length cd, .slice An s.nd.length cn, .slice Au x.due.length cu, .slice Ab s.br.length cb] :: ([] ++ F)⟩)
    (fun z => z.1 ≤ y ∧ z.2.2 ≤ 9223372036854775807) (fun z => y - z.1) (0, none, 0) ⟨Nat.zero_le _, by show (0 : Nat) ≤ _; omega⟩ hsQ (fun z hz => ?_)
  obtain ⟨j, A5, c5⟩ := z
  obtain ⟨hj, hc5⟩ := hz
  simp only at hj hc5
  dsimp only
  by_cases hlt2 : j < y
  rotate_left
  · have e1 : j = y := by omega
    subst e1
    repeat (first | ((with_reducible refine Tr.step rfl ?_); (first | (refine xmQ (z := ?_)) | (refine xaQ (z := ?_)) | (refine xiQ (z := ?_)))) | (with_reducible first | apply Tr.next | apply Tr.seq | apply Tr.region | apply Tr.nil | apply Tr.exit | apply Tr.ret | apply Tr.then_exit) | ((with_reducible refine Tr.in_exit ?_ ?_); (exact rfl)) | (refine Tr.cond_f rfl (by first | (with_reducible assumption) | omega) ?_))
    refine Tr.doneB (A' := [ownS 3 1 A5 (failF x s j).length c5 (intV (nats_ (failF x s j)))]) [box bm 3 _, box b6 _ _, box b5 _ _, box b2 _ _] (by first | exact .inl rfl | exact .inr rfl) rfl (by repeat (first | exact RVs.nil | (apply RVs.cons; (exact RV.tmp rfl)))) hm1 (perm4 _ _ _ _ _ _) ⟨A5, c5, hc5, rfl, rfl⟩
  obtain ⟨z, hz⟩ := get_of_lt (xs := s.br) (i := j) (by omega)
  obtain ⟨hA6, hat6⟩ := Ints.at (h6.mono RI.mono hm1) hz
  have hask := askF_iff hz
  have hfs := failF_succ x s j
  by_cases hz0 : z < 0
  rotate_left
  · have ha : askF s j = false := by rw [hask]; simp [hz0]
    rw [ha, Bool.false_and, if_neg (by decide), List.append_nil] at hfs
    have hac : acc (srvP x s) (askF s) (j + 1) = acc (srvP x s) (askF s) j := acc_no (fun h => by rw [ha] at h; cases h.1)
    rw [← hfs, ← hac]
    repeat (first | ((with_reducible refine Tr.step rfl ?_); (first | (refine xmQ (z := ?_)) | (refine xaQ (z := ?_)) | ((with_reducible refine Knd.load ?_); (first | (refine xlQ (z := ?_)) | (refine xMQ (z := ?_)))) | (refine xfQ (z := ?_)) | ((with_reducible refine Knd.binOp ?_); (first | (refine xdQ (z := ?_)) | (refine xiQ (z := ?_)))) | (refine xxQ (z := ?_)))) | (with_reducible first | apply Tr.next | apply Tr.seq | apply Tr.region | apply Tr.nil | apply Tr.skip | apply Tr.block | apply Tr.exit | apply Tr.then_exit) | ((with_reducible refine Tr.in_exit ?_ ?_); (exact rfl)) | (refine Tr.cond_t rfl (by first | (with_reducible assumption) | omega) ?_))
    exact Tr.again (j + 1, A5, c5) ⟨by simp only; omega, hc5⟩ (by simp only; omega) hsQ
  have ha : askF s j = true := by rw [hask]; simp [hz0]
  rw [ha, Bool.true_and] at hfs
  obtain ⟨u, hu⟩ := get_of_lt (xs := s.nd) (i := j) (by omega)
  obtain ⟨hA4, hat4⟩ := Ints.at (h4.mono RI.mono hm1) hu
  have hjl : acc (srvP x s) (askF s) j j = false := by
    cases hc : acc (srvP x s) (askF s) j j with
    | false => rfl
    | true => have := (acc_lt hc).1; omega
  have hlen : (intV (mskL s.nd (acc (srvP x s) (askF s) j))).length = s.nd.length := by rw [intV_length, mskL_length]
  have hnew : (intV (mskL s.nd (acc (srvP x s) (askF s) j))).set j (.int .i64 u) = intV (mskL s.nd fun b => acc (srvP x s) (askF s) j b || decide (b = j)) := by
    rw [intV_set, show u = s.nd.getD j 0 from (getD_of hu).symm, mskL_add (by omega)]
  have hlen2 : (intV (mskL s.nd fun b => acc (srvP x s) (askF s) j b || decide (b = j))).length = s.nd.length := by rw [intV_length, mskL_length]
  have hdel : (intV (mskL s.nd fun b => acc (srvP x s) (askF s) j b || decide (b = j))).set j (.int .i64 0) = intV (mskL s.nd (acc (srvP x s) (askF s) j)) := by
    rw [intV_set, mskL_del (by omega) hjl]
  have hfl : (failF x s j).length ≤ j := by
    have := List.length_filter_le (fun j => askF s j && !acc (srvP x s) (askF s) (j + 1) j) (List.range j)
    rwa [List.length_range] at this
  repeat (first | ((with_reducible refine Tr.step rfl ?_); (first | (refine xmQ (z := ?_)) | (refine xaQ (z := ?_)) | ((with_reducible refine Knd.load ?_); (first | (refine xlQ (z := ?_)) | (refine xMQ (z := ?_)))) | (refine xfQ (z := ?_)) | (refine xiQ (z := ?_)) | (refine xxQ (z := ?_)))) | (with_reducible first | apply Tr.next | apply Tr.seq | apply Tr.region | apply Tr.nil | apply Tr.skip | apply Tr.block) | (refine Tr.cond_t rfl (by first | (with_reducible assumption) | omega) ?_) | (refine Tr.cond_f rfl (by first | (with_reducible assumption) | omega) ?_))
  (((apply Tr.draw ((box b6 45 _ :: _))); (kernel_rfl)); (refine tkQ 0 (hB := by exact (Sub.mem (by repeat (first | exact Sub.refl | apply Sub.cons)))) (s := by exact slQ) (h := ?_)); (refine tkQ 1 (s := by exact Stab.move rfl) (h := ?_)); (refine tkQ 2 (s := by exact sfQ) (h := ?_)); (refine tkQ 4 (s := by exact Stab.move rfl) (h := ?_)); (refine tkQ 3 (s := by exact slQ) (h := ?_)); (refine tkQ 5 (s := by exact sxQ) (h := ?_)); (refine tkQ 6 (s := by exact sMQ) (h := ?_)); (refine tkQ 7 (s := by exact Stab.indexB0 rfl rfl (tysOk.get rfl) rfl (tysOk.get rfl) rfl (by omega) (by omega)) (h := ?_)); (refine TrA.eff 8 rfl (by kernel_rfl) (by exact .inl rfl) ?_); (((refine Knd.store ?_); ((refine Exec.storeS rfl rfl (tysOk.get rfl) rfl (by first | rfl | assumption) (by repeat (first | exact Upd.here | apply Upd.there)) (by omega) ?_)))); (refine ⟨(by first | exact Mem.le.refl _ | assumption), (by exact (Sub.mem (by repeat (first | exact Sub.refl | apply Sub.cons)))), ?_⟩); (refine TrA.done (by kernel_rfl) ?_))
  rw [Int.toNat_natCast j, hnew]
  repeat (first | ((with_reducible refine Tr.step rfl ?_); ((refine xmQ (z := ?_)))) | (with_reducible first | apply Tr.next | apply Tr.seq | apply Tr.region))
  ((refine Tr.step rfl ?_))
  refine Exec.callv (first := []) (cap := [.pointer (some ⟨b6, 0, none⟩), .pointer (some ⟨b5, 0, none⟩), .pointer (some ⟨b2, 0, none⟩)]) (A := [box bm 3 _, box b6 _ _, box b5 _ _, box b2 _ _]) rfl rfl (hpos' bm b6 b5 b2 fun b => acc (srvP x s) (askF s) j b || decide (b = j)) (perm4 _ _ _ _ _ _).symm rfl ?_
  rintro _ _ _ - ⟨rfl, rfl, q, rfl, hq⟩
  cases q
  · have hac : acc (srvP x s) (askF s) (j + 1) = acc (srvP x s) (askF s) j := acc_no (fun h => by have := hq.2 h.2; cases this)
    rw [hac, hjl, Bool.not_false, if_pos rfl] at hfs
    have hfl2 : (failF x s j).length + 1 = (failF x s (j + 1)).length := by rw [hfs, List.length_append, List.length_singleton]
    repeat (first | ((with_reducible refine Tr.step rfl ?_); (first | (refine xmQ (z := ?_)) | (refine xlQ (z := ?_)) | ((with_reducible refine Knd.unOp ?_); ((refine Exec.stab rfl (Stab.not rfl) rfl ?_))) | ((with_reducible refine Knd.store ?_); ((refine Exec.storeS rfl rfl (tysOk.get rfl) rfl (by first | rfl | assumption) (by repeat (first | exact Upd.here | apply Upd.there)) (by omega) ?_))) | ((with_reducible refine Knd.indexAddr ?_); ((refine Exec.stab rfl (Stab.indexB0 rfl rfl (tysOk.get rfl) rfl (tysOk.get rfl) rfl (by omega) (by omega)) rfl ?_))) | ((with_reducible refine Knd.buildSlice ?_); ((refine Exec.buildSlice (tysOk.get rfl) rfl (tysOk.get rfl) rfl rfl rfl rfl rfl (by repeat (first | exact BuildP.nil | ((apply BuildP.one); (rfl); (rfl); (first | rfl | assumption); (repeat (first | exact SetL.z | apply SetL.s))))) rfl (fun b => ?_)))))) | (with_reducible first | apply Tr.next | apply Tr.seq | apply Tr.region | apply Tr.nil) | (refine Tr.cond_bt rfl (by first | (with_reducible rfl) | (with_reducible exact Bool.not_false)) ?_))
    rw [Int.toNat_natCast j, hdel, ← hac]
    ((refine Tr.step rfl ?_))
    refine Exec.append (news := [.int .i64 (j : Int)]) rfl rfl (tysOk.get rfl) rfl (tysOk.get rfl) rfl rfl rfl rfl (by repeat (first | exact Del.here | apply Del.there)) (Src.box (by repeat (first | exact Has.here | apply Has.there))) rfl (by intro u hu; simp at hu; subst hu; rfl) (by omega) (by omega) rfl (fun A7 c7 hc7 => ?_)
    rw [show intV (nats_ (failF x s j)) ++ [Value.int .i64 (j : Int)] = intV (nats_ (failF x s (j + 1))) by rw [hfs, nats__snoc, intV_append]; rfl, hfl2]
    refine gvQ (r := box b 3 _) (k := ?_)
    repeat (first | ((with_reducible refine Tr.step rfl ?_); (first | (refine xmQ (z := ?_)) | (refine xaQ (z := ?_)) | (refine xdQ (z := ?_)))) | (with_reducible first | apply Tr.next | apply Tr.region | apply Tr.nil | apply Tr.in_normal))
    exact Tr.again (j + 1, A7, c7) ⟨by simp only; omega, hc7⟩ (by simp only; omega) hsQ
  · have hac : acc (srvP x s) (askF s) (j + 1) = fun b => acc (srvP x s) (askF s) j b || decide (b = j) := acc_yes ha (hq.1 rfl)
    rw [hac, show (!(acc (srvP x s) (askF s) j j || decide (j = j))) = false by simp, if_neg (by decide), List.append_nil] at hfs
    rw [← hfs, ← hac]
    repeat (first | ((with_reducible refine Tr.step rfl ?_); (first | (refine xmQ (z := ?_)) | (refine xdQ (z := ?_)) | ((with_reducible refine Knd.unOp ?_); ((refine Exec.stab rfl (Stab.not rfl) rfl ?_))))) | (with_reducible first | apply Tr.next | apply Tr.region | apply Tr.nil | apply Tr.skip | apply Tr.in_normal) | (refine Tr.cond_bf rfl (by first | (with_reducible rfl) | (with_reducible exact Bool.not_true)) ?_))
    refine ftQ (r := ownS 3 1 _ _ _ _) (k := ?_)
    exact Tr.again (j + 1, A5, c5) ⟨by simp only; omega, hc5⟩ (by simp only; omega) hsQ
end Go.Proofs.Ytgnipfjjkliibaa

/-
  Honour: clone, fail.
  Conditions: none.
-/
namespace Go.Proofs.Ytgnipfjjkliibaa
open Go Bf
attribute [local irreducible] Tr Exec Stab HasTy Go.Addr.add IntKind.wrap
theorem perm42 {α : Type} (a b c d e f : α) (F : List α) : (a :: b :: c :: d :: e :: f :: F).Perm (e :: f :: a :: b :: c :: d :: F) := (List.perm_append_comm (l₁ := [a, b, c, d]) (l₂ := [e, f])).append_right F
set_option maxHeartbeats 4000000 in
theorem stclone_own (M : Mem) (v : Value) (x : Fx) (s : St) (h : RSt M v x s) (hf : Fit x s) :
    Bf.Fn Try.prog 94 [v] M [] (fun r M' A' => M = M' ∧ ∃ Af cf Au cu Aa ca Ad cd An cn Ab cb, r = .agg #[.slice Af x.fits.length cf, .slice Aa s.am.length ca, .slice Ad s.dy.length cd, .slice An s.nd.length cn, .slice Au x.due.length cu, .slice Ab s.br.length cb] ∧
      Fits2 M (.slice Af x.fits.length cf) x.fits ∧ Ints M (.slice Au x.due.length cu) x.due ∧ (ca ≤ 9223372036854775807 ∧ cd ≤ 9223372036854775807 ∧ cn ≤ 9223372036854775807 ∧ cb ≤ 9223372036854775807) ∧
      A' = [ownS 3 1 Ab s.br.length cb (intV s.br), ownS 3 1 An s.nd.length cn (intV s.nd), ownS 3 1 Ad s.dy.length cd (intV s.dy), ownS 3 1 Aa s.am.length ca (intV s.am)]) := by
  have z1 := hf.l64
  have z2 := hf.r64
  have z3 := hf.dyl
  have z4 := hf.brl
  obtain ⟨Af, cf, Aa, ca, Ad, cd, An, cn, Au, cu, Ab, cb, rfl, h1, h2, h3, h4, h5, h6⟩ := h
  refine Fn.intro Try.func94 rfl rfl Try.ntmps94 rfl fun E F => ?_
  repeat (first | ((with_reducible refine Tr.step rfl ?_); (first | (refine xlQ (z := ?_)) | (refine xfQ (z := ?_)) | ((with_reducible refine Knd.box ?_); ((refine Exec.box rfl rfl (fun b => ?_)))) | ((with_reducible refine Knd.alloc ?_); ((refine Exec.alloc (tysOk.get rfl) rfl rfl (fun b => ?_)))))) | (with_reducible first | apply Tr.next | apply Tr.seq | apply Tr.region | apply Tr.nil))
  ((refine Tr.step rfl ?_))
  refine Exec.call (A := []) rfl (clone_fn M Aa ca s.am h2 (by omega)) (List.Perm.refl _) rfl ?_
  rintro _ _ _ - ⟨⟨A1, k1, rfl, q1, rfl⟩, rfl⟩
  repeat (first | ((with_reducible refine Tr.step rfl ?_); (first | (refine xlQ (z := ?_)) | (refine xfQ (z := ?_)) | (refine xSQ (z := ?_)))) | (with_reducible first | apply Tr.next | apply Tr.seq | apply Tr.region | apply Tr.nil))
  ((refine Tr.step rfl ?_))
  refine Exec.call (A := []) rfl (clone_fn M Ad cd s.dy h3 (by omega)) (List.Perm.refl _) rfl ?_
  rintro _ _ _ - ⟨⟨A2, k2, rfl, q2, rfl⟩, rfl⟩
  repeat (first | ((with_reducible refine Tr.step rfl ?_); (first | (refine xlQ (z := ?_)) | (refine xfQ (z := ?_)) | (refine xSQ (z := ?_)))) | (with_reducible first | apply Tr.next | apply Tr.seq | apply Tr.region | apply Tr.nil))
  ((refine Tr.step rfl ?_))
  refine Exec.call (A := []) rfl (clone_fn M An cn s.nd h4 (by omega)) (List.Perm.refl _) rfl ?_
  rintro _ _ _ - ⟨⟨A3, k3, rfl, q3, rfl⟩, rfl⟩
  repeat (first | ((with_reducible refine Tr.step rfl ?_); (first | (refine xlQ (z := ?_)) | (refine xfQ (z := ?_)) | (refine xSQ (z := ?_)))) | (with_reducible first | apply Tr.next | apply Tr.seq | apply Tr.region | apply Tr.nil))
  ((refine Tr.step rfl ?_))
  refine Exec.call (A := []) rfl (clone_fn M Ab cb s.br h6 (by omega)) (List.Perm.refl _) rfl ?_
  rintro _ _ _ - ⟨⟨A4, k4, rfl, q4, rfl⟩, rfl⟩
  repeat (first | ((with_reducible refine Tr.step rfl ?_); (first | (refine xwQ (z := ?_)) | (refine xfQ (z := ?_)) | ((with_reducible refine Knd.store ?_); (first | (refine xSQ (z := ?_)) | (refine xWQ (z := ?_)))))) | (with_reducible first | apply Tr.next | apply Tr.seq | apply Tr.region | apply Tr.nil | apply Tr.ret))
  refine Tr.doneB (A' := [ownS 3 1 A4 s.br.length k4 (intV s.br), ownS 3 1 A3 s.nd.length k3 (intV s.nd), ownS 3 1 A2 s.dy.length k2 (intV s.dy), ownS 3 1 A1 s.am.length k1 (intV s.am)]) [box _ 64 _, box _ 64 _] (by first | exact .inl rfl | exact .inr rfl) rfl (by repeat (first | exact RVs.nil | (apply RVs.cons; (exact RV.cellW (by rfl) (tysOk.get (by rfl)) (by rfl) (by repeat (first | exact Has.here | apply Has.there)) (by first | rfl | assumption))))) (Mem.le.refl _) (perm42 _ _ _ _ _ _ _)
    ⟨rfl, Af, cf, Au, cu, A1, k1, A2, k2, A3, k3, A4, k4, rfl, h1, h5, ⟨q1, q2, q3, q4⟩, rfl⟩
/-- many places set to one number -/
def setAll (l : List Nat) (a : Int) (br : List Int) : List Int := l.foldl (fun b j => b.set j a) br
theorem setAll_length (l : List Nat) (a : Int) : ∀ br, (setAll l a br).length = br.length := by
  induction l with
  | nil => exact fun _ => rfl
  | cons j l ih => intro br; show (setAll l a (br.set j a)).length = _; rw [ih, List.length_set]
theorem setAll_getD (l : List Nat) (a : Int) : ∀ (br : List Int), (∀ j ∈ l, j < br.length) → ∀ k, (setAll l a br).getD k 0 = if k ∈ l then a else br.getD k 0 := by
  induction l with
  | nil => exact fun br _ k => (if_neg List.not_mem_nil).symm
  | cons j l ih =>
    intro br hb k
    show (setAll l a (br.set j a)).getD k 0 = _
    rw [ih (br.set j a) (fun i hi => by rw [List.length_set]; exact hb i (List.mem_cons_of_mem _ hi)) k, setD _ _ _ _ (hb j (List.mem_cons_self ..))]
    by_cases h1 : k ∈ l
    · rw [if_pos h1, if_pos (List.mem_cons_of_mem _ h1)]
    · rw [if_neg h1]
      by_cases h2 : k = j
      · rw [if_pos h2, if_pos (by rw [h2]; exact List.mem_cons_self ..)]
      · rw [if_neg h2, if_neg (fun h => (List.mem_cons.1 h).elim h2 h1)]
theorem setAll_mark {x : Fx} {s : St} (hf : Fit x s) (at_ : Nat) : setAll (failF x s s.nd.length) (at_ : Int) s.br = (markF x s at_).br := by
  have hm : ∀ j ∈ failF x s s.nd.length, j < s.br.length := fun j hj => by have := (mem_failL.1 hj).1; have := hf.brl; omega
  refine ext_getD (by rw [setAll_length, markF_brl]) fun i hi => ?_
  rw [setAll_length] at hi
  rw [setAll_getD _ _ _ hm, markF_br hi]
theorem setAll_take {l : List Nat} {a : Int} {br : List Int} {i j : Nat} (h : l[i]? = some j) : setAll (l.take (i + 1)) a br = (setAll (l.take i) a br).set j a := by
  rw [List.take_add_one, h]
  simp [setAll, List.foldl_append]
theorem nats_get {l : List Nat} {i j : Nat} (h : l[i]? = some j) : (intV (nats_ l))[i]? = some (.int .i64 (j : Int)) := intV_get (by simp [nats_, h])
set_option maxHeartbeats 8000000 in
theorem hfail_own (M : Mem) (x : Fx) (s : St) (at_ : Nat) (Af Aa Ad An Au Ab : Option Addr) (cf ca cd cn cu cb : Nat) (hf : Fit x s) (h1 : Fits2 M (.slice Af x.fits.length cf) x.fits) (h2 : Ints M (.slice Aa s.am.length ca) s.am) (h3 : Ints M (.slice Ad s.dy.length cd) s.dy) (h4 : Ints M (.slice An s.nd.length cn) s.nd) (h5 : Ints M (.slice Au x.due.length cu) x.due) (hcb : cb ≤ 9223372036854775807) :
    Bf.Fn Try.prog 95 [.agg #[.slice Af x.fits.length cf, .slice Aa s.am.length ca, .slice Ad s.dy.length cd, .slice An s.nd.length cn, .slice Au x.due.length cu, .slice Ab s.br.length cb], .int .i64 (at_ : Int)] M [ownS 3 1 Ab s.br.length cb (intV s.br)]
      (fun _ M' A' => M = M' ∧ A' = [ownS 3 1 Ab s.br.length cb (intV (markF x s at_).br)]) := by
  have hcall : Bf.Fn Try.prog 59 [.agg #[.slice Af x.fits.length cf, .slice Aa s.am.length ca, .slice Ad s.dy.length cd, .slice An s.nd.length cn, .slice Au x.due.length cu, .slice Ab s.br.length cb], .int .i64 (s.nd.length : Int)] M [ownS 3 1 Ab s.br.length cb (intV s.br)] (fun r M' A' => ∃ A1, A' = [ownS 3 1 Ab s.br.length cb (intV s.br)] ++ A1 ∧ M = M' ∧ ∃ A c, c ≤ 9223372036854775807 ∧ r = .slice A (failF x s s.nd.length).length c ∧ A1 = [ownS 3 1 A (failF x s s.nd.length).length c (intV (nats_ (failF x s s.nd.length)))]) := by
    have key : ∀ M', Mem.le M M' → (∀ r ∈ [ownS 3 1 Ab s.br.length cb (intV s.br)], r.ok M') → Bf.Fn Try.prog 59 [.agg #[.slice Af x.fits.length cf, .slice Aa s.am.length ca, .slice Ad s.dy.length cd, .slice An s.nd.length cn, .slice Au x.due.length cu, .slice Ab s.br.length cb], .int .i64 (s.nd.length : Int)] M' [] (fun v M'' A' => (∃ A c, c ≤ 9223372036854775807 ∧ v = .slice A (failF x s s.nd.length).length c ∧ A' = [ownS 3 1 A (failF x s s.nd.length).length c (intV (nats_ (failF x s s.nd.length)))]) ∧ M' = M'') := fun M' hm hok =>
      Fn.forget (failing_own M' _ x s s.nd.length ⟨Af, cf, Aa, ca, Ad, cd, An, cn, Au, cu, Ab, cb, rfl, h1.mono RRowB.mono hm, h2.mono RI.mono hm, h3.mono RI.mono hm, h4.mono RI.mono hm, h5.mono RI.mono hm, Ints.ofOwn (hok _ List.mem_cons_self) rfl hcb⟩ hf (Nat.le_refl _))
    exact Fn.lendA ⟨Try.f59, Try.func59, rfl, rfl⟩ key
  have hfl : (failF x s s.nd.length).length ≤ s.nd.length := by
    have := List.length_filter_le (fun j => askF s j && !acc (srvP x s) (askF s) (j + 1) j) (List.range s.nd.length)
    rwa [List.length_range] at this
  have hmem : ∀ j ∈ failF x s s.nd.length, j < s.br.length := fun j hj => by have := (mem_failL.1 hj).1; have := hf.brl; omega
  have hmk := setAll_mark hf at_
  have hr64 := hf.r64
  generalize failF x s s.nd.length = l at hcall hfl hmem hmk
  refine Fn.intro Try.func95 rfl rfl Try.ntmps95 rfl fun E F => ?_
  repeat (first | ((with_reducible refine Tr.step rfl ?_); (first | ((with_reducible refine Knd.load ?_); (first | (refine xlQ (z := ?_)) | (refine xwQ (z := ?_)))) | (refine xfQ (z := ?_)) | (refine xnQ (z := ?_)) | ((with_reducible refine Knd.box ?_); ((refine Exec.box rfl rfl (fun b => ?_)))))) | (with_reducible first | apply Tr.next | apply Tr.seq | apply Tr.region | apply Tr.nil))
  ((refine Tr.step rfl ?_))
  refine Exec.call (A := [ownS 3 1 Ab s.br.length cb (intV s.br)]) rfl hcall (List.Perm.swap _ _ _) rfl ?_
  rintro _ _ _ - ⟨_, rfl, rfl, A5, c5, hc5, rfl, rfl⟩
  simp only [List.cons_append, List.nil_append]
  repeat (first | ((with_reducible refine Tr.step rfl ?_); (first | (refine xmQ (z := ?_)) | (refine xnQ (z := ?_)))) | (with_reducible first | apply Tr.next | apply Tr.nil | apply Tr.block))
  generalize b = bs
  refine Tr.loop (α := Nat) (fun y => ⟨22, [(12, .int .i64 (y : Int)), (11, .int .i64 (l.length : Int)), (10, .slice A5 l.length c5), (2, .pointer (some ⟨bs, 0, none⟩)), (1, .int .i64 (at_ : Int))], [], M, ownS 3 1 Ab s.br.length cb (intV (setAll (l.take y) (at_ : Int) s.br)) :: ownS 3 1 A5 l.length c5 (intV (nats_ l)) :: box bs 64 [.slice Af x.fits.length cf, .slice Aa s.am.length ca, .slice Ad s.dy.length cd, .slice An s.nd.length cn, .slice Au x.due.length cu, .slice Ab s.br.length cb] :: ([] ++ F)⟩)
    (fun y => y ≤ l.length) (fun y => l.length - y) 0 (Nat.zero_le _) hsQ (fun y hy => ?_)
  by_cases hlt : y < l.length
  · obtain ⟨j, hj⟩ := get_of_lt hlt
    have hjb := hmem j (List.mem_of_getElem? hj)
    have hst := setAll_take (a := (at_ : Int)) (br := s.br) hj
    have hnv : (intV (nats_ l))[(y : Int).toNat]? = some (.int .i64 (j : Int)) := by rw [Int.toNat_natCast]; exact nats_get hj
    have hl2 : (intV (setAll (l.take y) (at_ : Int) s.br)).length = s.br.length := by rw [intV_length, setAll_length]
    refine Tr.own_some A5 (e := 3) (sz := 1) (m := l.length) (c := c5) (xs := intV (nats_ l)) (by repeat (first | exact Has.here | apply Has.there)) (by omega) (fun hA5 => ?_)
    refine Tr.own_some Ab (e := 3) (sz := 1) (m := s.br.length) (c := cb) (xs := intV (setAll (l.take y) (at_ : Int) s.br)) (by repeat (first | exact Has.here | apply Has.there)) (by omega) (fun hAb => ?_)
    repeat (first | ((with_reducible refine Tr.step rfl ?_); (first | (refine xmQ (z := ?_)) | (refine xaQ (z := ?_)) | ((with_reducible refine Knd.load ?_); (first | (refine xlQ (z := ?_)) | (refine Exec.stab rfl (Stab.loadO rfl (tysOk.get rfl) rfl (by repeat (first | exact Has.here | apply Has.there)) (by assumption)) rfl ?_))) | (refine xfQ (z := ?_)) | ((with_reducible refine Knd.binOp ?_); (first | (refine xdQ (z := ?_)) | (refine xiQ (z := ?_)))) | ((with_reducible refine Knd.store ?_); ((refine Exec.storeO rfl rfl (tysOk.get rfl) rfl (by first | rfl | assumption) (by repeat (first | exact Upd.here | apply Upd.there)) (by omega) ?_))) | (refine xxQ (z := ?_)))) | (with_reducible first | apply Tr.next | apply Tr.seq | apply Tr.region | apply Tr.nil | apply Tr.skip | apply Tr.block | apply Tr.in_normal) | (refine Tr.cond_t rfl (by first | (with_reducible assumption) | omega) ?_))
    rw [Int.toNat_natCast j, intV_set, ← hst]
    exact Tr.again (y + 1) (by omega) (by omega) hsQ
  have ey : y = l.length := by omega
  subst ey
  rw [List.take_length, hmk]
  repeat (first | ((with_reducible refine Tr.step rfl ?_); ((refine xiQ (z := ?_)))) | (with_reducible first | apply Tr.next | apply Tr.seq | apply Tr.region | apply Tr.nil | apply Tr.exit | apply Tr.then_exit) | ((with_reducible refine Tr.in_exit ?_ ?_); (exact rfl)) | (refine Tr.cond_f rfl (by first | (with_reducible assumption) | omega) ?_))
  refine Tr.doneA (A' := [ownS 3 1 Ab s.br.length cb (intV (markF x s at_).br)]) (by first | exact .inl rfl | exact .inr rfl) rfl (by repeat (exact RVs.nil)) (Mem.le.refl _) ⟨fun r hr => ?_, fun hn => ?_⟩ ⟨rfl, rfl⟩
  · rcases List.mem_cons.1 hr with rfl | hr
    · exact List.mem_cons_self ..
    · exact List.mem_cons_of_mem _ (List.mem_cons_of_mem _ (List.mem_cons_of_mem _ hr))
  · simp only [List.flatMap_cons, List.nodup_append, List.nil_append, List.singleton_append] at hn ⊢
    refine ⟨hn.1, hn.2.1.2.1.2.1, fun a ha b hb => hn.2.2 a ha b ?_⟩
    simp only [List.mem_append]
    exact .inr (.inr hb)
end Go.Proofs.Ytgnipfjjkliibaa

/-
  Honour: begin.
  Conditions: none.
-/
namespace Go.Proofs.Ytgnipfjjkliibaa
open Go Bf
attribute [local irreducible] Tr Exec Stab HasTy Go.Addr.add IntKind.wrap
def RSp (_ : Mem) (c : List Value) (y : Sp) : Prop := c = [.int .i64 y.no, .int .i64 y.item, .int .i64 y.plant, .int .i64 y.ready, .int .i64 y.expiry, .int .i64 y.amount]
def RRq (_ : Mem) (c : List Value) (y : Rq) : Prop := c = [.int .i64 y.no, .int .i64 y.item, .int .i64 y.cust, .int .i64 y.due, .int .i64 y.shelf, .int .i64 y.amount]
theorem RSp.mono (M M' : Mem) (c : List Value) (y : Sp) (_ : Mem.le M M') (h : RSp M c y) : RSp M' c y := h
theorem RRq.mono (M M' : Mem) (c : List Value) (y : Rq) (_ : Mem.le M M') (h : RRq M c y) : RRq M' c y := h
/-- a book in memory -/
def RBk (M : Mem) (v : Value) (b : Bk) : Prop := ∃ As cs Ar cr Af cf Ad cd, v = .agg #[.int .i64 b.known, .slice As b.sups.length cs, .slice Ar b.reqs.length cr, .slice Af b.fits.length cf, .slice Ad b.reads cd] ∧
  SlOf 6 RSp M (.slice As b.sups.length cs) b.sups ∧ SlOf 6 RRq M (.slice Ar b.reqs.length cr) b.reqs ∧ Fits2 M (.slice Af b.fits.length cf) b.fits
theorem RBk.mono {M M' : Mem} {v : Value} {b : Bk} (h : RBk M v b) (hm : Mem.le M M') : RBk M' v b := by
  obtain ⟨As, cs, Ar, cr, Af, cf, Ad, cd, rfl, h1, h2, h3⟩ := h
  exact ⟨As, cs, Ar, cr, Af, cf, Ad, cd, rfl, h1.mono RSp.mono hm, h2.mono RRq.mono hm, h3.mono RRowB.mono hm⟩
theorem map_take_succ {α : Type} (f : α → Int) {l : List α} {i : Nat} {y : α} (h : l[i]? = some y) : (l.take (i + 1)).map f = (l.take i).map f ++ [f y] := by
  rw [List.take_add_one, h, List.map_append]; rfl
set_option maxHeartbeats 8000000 in
theorem hbegin_fn (M : Mem) (v : Value) (k : Bk) (h : RBk M v k) (hs : k.sups.length ≤ 1000000) (hr : k.reqs.length ≤ 1000000) :
    Fn0 Try.prog 34 [v] M (fun r M' => RSt M' r (fxB k) (beginF k)) := by
  obtain ⟨As, cs, Ar, cr, Af, cf, Ad, cd, rfl, h1, h2, h3⟩ := h
  refine Fn.intro Try.func34 rfl rfl Try.ntmps34 rfl fun E F => ?_
  repeat (first | ((with_reducible refine Tr.step rfl ?_); (first | (refine xmQ (z := ?_)) | (refine xlQ (z := ?_)) | (refine xfQ (z := ?_)) | (refine xnQ (z := ?_)) | (refine xSQ (z := ?_)) | ((with_reducible refine Knd.box ?_); ((refine Exec.box rfl rfl (fun b => ?_)))) | ((with_reducible refine Knd.alloc ?_); ((refine Exec.alloc (tysOk.get rfl) rfl rfl (fun b => ?_)))))) | (with_reducible first | apply Tr.next | apply Tr.seq | apply Tr.region | apply Tr.nil | apply Tr.block))
  rename_i b1
  generalize b = b2
  refine Tr.own_nil 3 1 ?_
  refine Tr.own_nil 3 1 ?_
  refine Tr.loop (α := Nat × (Option Addr × Nat) × (Option Addr × Nat)) (fun y => ⟨60, [(13, .int .i64 (y.1 : Int)), (12, .int .i64 (k.sups.length : Int)), (11, .slice As k.sups.length cs), (2, .pointer (some ⟨b2, 0, none⟩)), (1, .pointer (some ⟨b1, 0, none⟩))], [], M,
      ownS 3 1 y.2.1.1 y.1 y.2.1.2 (intV ((k.sups.take y.1).map (·.amount))) :: ownS 3 1 y.2.2.1 y.1 y.2.2.2 (intV ((k.sups.take y.1).map (·.ready))) :: box b2 64 [.slice Af k.fits.length cf, .slice y.2.1.1 y.1 y.2.1.2, .slice y.2.2.1 y.1 y.2.2.2, .slice none 0 0, .slice none 0 0, .slice none 0 0] :: box b1 27 [.int .i64 k.known, .slice As k.sups.length cs, .slice Ar k.reqs.length cr, .slice Af k.fits.length cf, .slice Ad k.reads cd] :: ([] ++ F)⟩)
    (fun y => y.1 ≤ k.sups.length ∧ y.2.1.2 ≤ 9223372036854775807 ∧ y.2.2.2 ≤ 9223372036854775807) (fun y => k.sups.length - y.1) (0, (none, 0), (none, 0)) ⟨Nat.zero_le _, by show (0 : Nat) ≤ _; omega, by show (0 : Nat) ≤ _; omega⟩ hsQ (fun y hy => ?_)
  obtain ⟨i, ⟨A1, c1⟩, ⟨A2, c2⟩⟩ := y
  obtain ⟨hi, hc1, hc2⟩ := hy
  simp only at hi hc1 hc2
  dsimp only
  by_cases hlt : i < k.sups.length
  · obtain ⟨y, hy⟩ := get_of_lt hlt
    obtain ⟨hA, ch, hat, rfl⟩ := h1.elem hy
    have e1 := map_take_succ (·.amount) hy
    have e2 := map_take_succ (·.ready) hy
    repeat (first | ((with_reducible refine Tr.step rfl ?_); (first | ((with_reducible refine Knd.load ?_); (first | (refine xlQ (z := ?_)) | (refine Exec.stab rfl (Stab.loadMA rfl (tysOk.get rfl) rfl (by assumption) (by first | rfl | assumption)) rfl ?_))) | (refine xfQ (z := ?_)) | (refine xiQ (z := ?_)) | (refine xWQ (z := ?_)) | ((with_reducible refine Knd.alloc ?_); ((refine Exec.alloc (tysOk.get rfl) rfl rfl (fun b => ?_)))) | (refine xxQ (z := ?_)) | ((with_reducible refine Knd.buildSlice ?_); ((refine Exec.buildSlice (tysOk.get rfl) rfl (tysOk.get rfl) rfl rfl rfl rfl rfl (by repeat (first | exact BuildP.nil | ((apply BuildP.one); (rfl); (rfl); (first | rfl | assumption); (repeat (first | exact SetL.z | apply SetL.s))))) rfl (fun b => ?_)))))) | (with_reducible first | apply Tr.next | apply Tr.seq | apply Tr.region | apply Tr.nil | apply Tr.skip | apply Tr.block) | (refine Tr.cond_t rfl (by first | (with_reducible assumption) | omega) ?_))
    rename_i b4
    ((refine Tr.step rfl ?_))
    refine Exec.append (news := [.int .i64 (y.amount)]) rfl rfl (tysOk.get rfl) rfl (tysOk.get rfl) rfl rfl rfl rfl (by repeat (first | exact Del.here | apply Del.there)) (Src.box (by repeat (first | exact Has.here | apply Has.there))) rfl (by intro u hu; simp at hu; subst hu; rfl) (by omega) (by omega) rfl (fun A3 c3 hc3 => ?_)
    refine gvQ (r := box b 3 _) (k := ?_)
    rw [show intV ((k.sups.take i).map (·.amount)) ++ [Value.int .i64 y.amount] = intV ((k.sups.take (i + 1)).map (·.amount)) by rw [e1, intV_append]; rfl]
    repeat (first | ((with_reducible refine Tr.step rfl ?_); (first | (refine xlQ (z := ?_)) | (refine xfQ (z := ?_)) | (refine xSQ (z := ?_)) | ((with_reducible refine Knd.buildSlice ?_); ((refine Exec.buildSlice (tysOk.get rfl) rfl (tysOk.get rfl) rfl rfl rfl rfl rfl (by repeat (first | exact BuildP.nil | ((apply BuildP.one); (rfl); (rfl); (first | rfl | assumption); (repeat (first | exact SetL.z | apply SetL.s))))) rfl (fun b => ?_)))))) | (with_reducible first | apply Tr.next | apply Tr.region | apply Tr.nil))
    ((refine Tr.step rfl ?_))
    refine Exec.append (news := [.int .i64 (y.ready)]) rfl rfl (tysOk.get rfl) rfl (tysOk.get rfl) rfl rfl rfl rfl (by repeat (first | exact Del.here | apply Del.there)) (Src.box (by repeat (first | exact Has.here | apply Has.there))) rfl (by intro u hu; simp at hu; subst hu; rfl) (by omega) (by omega) rfl (fun A4 c4 hc4 => ?_)
    refine gvQ (r := box b 3 _) (k := ?_)
    rw [show intV ((k.sups.take i).map (·.ready)) ++ [Value.int .i64 y.ready] = intV ((k.sups.take (i + 1)).map (·.ready)) by rw [e2, intV_append]; rfl]
    repeat (first | ((with_reducible refine Tr.step rfl ?_); (first | (refine xmQ (z := ?_)) | (refine xfQ (z := ?_)) | (refine xdQ (z := ?_)) | (refine xSQ (z := ?_)))) | (with_reducible first | apply Tr.next | apply Tr.region | apply Tr.nil | apply Tr.in_normal))
    refine gvQ (r := box b4 _ _) (k := ?_)
    refine ftQ (r := ownS 3 1 A3 _ _ _) (k := ?_)
    exact Tr.again (i + 1, (A3, c3), (A4, c4)) ⟨by simp only; omega, hc3, hc4⟩ (by simp only; omega) hsQ
  have ei : i = k.sups.length := by omega
  subst ei
  rw [List.take_length]
  repeat (first | ((with_reducible refine Tr.step rfl ?_); (first | (refine xmQ (z := ?_)) | (refine xlQ (z := ?_)) | (refine xfQ (z := ?_)) | (refine xnQ (z := ?_)) | (refine xiQ (z := ?_)))) | (with_reducible first | apply Tr.next | apply Tr.seq | apply Tr.region | apply Tr.nil | apply Tr.block | apply Tr.exit | apply Tr.then_exit) | ((with_reducible refine Tr.in_exit ?_ ?_); (exact rfl)) | (refine Tr.cond_f rfl (by first | (with_reducible assumption) | omega) ?_))
  refine Tr.own_nil 3 1 ?_
  refine Tr.own_nil 3 1 ?_
  refine Tr.own_nil 3 1 ?_
  refine Tr.loop (α := Nat × (Option Addr × Nat) × (Option Addr × Nat) × (Option Addr × Nat)) (fun y => ⟨60, [(35, .int .i64 (y.1 : Int)), (34, .int .i64 (k.reqs.length : Int)), (33, .slice Ar k.reqs.length cr), (2, .pointer (some ⟨b2, 0, none⟩)), (1, .pointer (some ⟨b1, 0, none⟩))], [], M,
      ownS 3 1 y.2.1.1 y.1 y.2.1.2 (intV ((k.reqs.take y.1).map (·.amount))) :: ownS 3 1 y.2.2.1.1 y.1 y.2.2.1.2 (intV ((k.reqs.take y.1).map (·.due))) :: ownS 3 1 y.2.2.2.1 y.1 y.2.2.2.2 (intV ((k.reqs.take y.1).map fun _ => -1)) :: ownS 3 1 A1 k.sups.length c1 (intV (k.sups.map (·.amount))) :: ownS 3 1 A2 k.sups.length c2 (intV (k.sups.map (·.ready))) :: box b2 64 [.slice Af k.fits.length cf, .slice A1 k.sups.length c1, .slice A2 k.sups.length c2, .slice y.2.1.1 y.1 y.2.1.2, .slice y.2.2.1.1 y.1 y.2.2.1.2, .slice y.2.2.2.1 y.1 y.2.2.2.2] :: box b1 27 [.int .i64 k.known, .slice As k.sups.length cs, .slice Ar k.reqs.length cr, .slice Af k.fits.length cf, .slice Ad k.reads cd] :: ([] ++ F)⟩)
    (fun y => y.1 ≤ k.reqs.length ∧ y.2.1.2 ≤ 9223372036854775807 ∧ y.2.2.1.2 ≤ 9223372036854775807 ∧ y.2.2.2.2 ≤ 9223372036854775807) (fun y => k.reqs.length - y.1) (0, (none, 0), (none, 0), (none, 0)) ⟨Nat.zero_le _, by show (0 : Nat) ≤ _; omega, by show (0 : Nat) ≤ _; omega, by show (0 : Nat) ≤ _; omega⟩ hsQ (fun y hy => ?_)
  obtain ⟨i, ⟨A3, c3⟩, ⟨A4, c4⟩, ⟨A5, c5⟩⟩ := y
  obtain ⟨hi, hc3, hc4, hc5⟩ := hy
  simp only at hi hc3 hc4 hc5
  dsimp only
  by_cases hlt2 : i < k.reqs.length
  · obtain ⟨y, hy⟩ := get_of_lt hlt2
    obtain ⟨hA, ch, hat, rfl⟩ := h2.elem hy
    have e1 := map_take_succ (·.amount) hy
    have e2 := map_take_succ (·.due) hy
    have e3 := map_take_succ (fun _ : Rq => (-1 : Int)) hy
    repeat (first | ((with_reducible refine Tr.step rfl ?_); (first | ((with_reducible refine Knd.load ?_); (first | (refine xlQ (z := ?_)) | (refine Exec.stab rfl (Stab.loadMA rfl (tysOk.get rfl) rfl (by assumption) (by first | rfl | assumption)) rfl ?_))) | (refine xfQ (z := ?_)) | (refine xiQ (z := ?_)) | (refine xWQ (z := ?_)) | ((with_reducible refine Knd.alloc ?_); ((refine Exec.alloc (tysOk.get rfl) rfl rfl (fun b => ?_)))) | (refine xxQ (z := ?_)) | ((with_reducible refine Knd.buildSlice ?_); ((refine Exec.buildSlice (tysOk.get rfl) rfl (tysOk.get rfl) rfl rfl rfl rfl rfl (by repeat (first | exact BuildP.nil | ((apply BuildP.one); (rfl); (rfl); (first | rfl | assumption); (repeat (first | exact SetL.z | apply SetL.s))))) rfl (fun b => ?_)))))) | (with_reducible first | apply Tr.next | apply Tr.seq | apply Tr.region | apply Tr.nil | apply Tr.skip | apply Tr.block) | (refine Tr.cond_t rfl (by first | (with_reducible assumption) | omega) ?_))
    rename_i b4
    ((refine Tr.step rfl ?_))
    refine Exec.append (news := [.int .i64 (y.amount)]) rfl rfl (tysOk.get rfl) rfl (tysOk.get rfl) rfl rfl rfl rfl (by repeat (first | exact Del.here | apply Del.there)) (Src.box (by repeat (first | exact Has.here | apply Has.there))) rfl (by intro u hu; simp at hu; subst hu; rfl) (by omega) (by omega) rfl (fun A6 c6 hc6 => ?_)
    refine gvQ (r := box b 3 _) (k := ?_)
    rw [show intV ((k.reqs.take i).map (·.amount)) ++ [Value.int .i64 y.amount] = intV ((k.reqs.take (i + 1)).map (·.amount)) by rw [e1, intV_append]; rfl]
    repeat (first | ((with_reducible refine Tr.step rfl ?_); (first | (refine xlQ (z := ?_)) | (refine xfQ (z := ?_)) | (refine xSQ (z := ?_)) | ((with_reducible refine Knd.buildSlice ?_); ((refine Exec.buildSlice (tysOk.get rfl) rfl (tysOk.get rfl) rfl rfl rfl rfl rfl (by repeat (first | exact BuildP.nil | ((apply BuildP.one); (rfl); (rfl); (first | rfl | assumption); (repeat (first | exact SetL.z | apply SetL.s))))) rfl (fun b => ?_)))))) | (with_reducible first | apply Tr.next | apply Tr.seq | apply Tr.region | apply Tr.nil))
    ((refine Tr.step rfl ?_))
    refine Exec.append (news := [.int .i64 (y.due)]) rfl rfl (tysOk.get rfl) rfl (tysOk.get rfl) rfl rfl rfl rfl (by repeat (first | exact Del.here | apply Del.there)) (Src.box (by repeat (first | exact Has.here | apply Has.there))) rfl (by intro u hu; simp at hu; subst hu; rfl) (by omega) (by omega) rfl (fun A7 c7 hc7 => ?_)
    refine gvQ (r := box b 3 _) (k := ?_)
    rw [show intV ((k.reqs.take i).map (·.due)) ++ [Value.int .i64 y.due] = intV ((k.reqs.take (i + 1)).map (·.due)) by rw [e2, intV_append]; rfl]
    repeat (first | ((with_reducible refine Tr.step rfl ?_); (first | (refine xlQ (z := ?_)) | (refine xfQ (z := ?_)) | (refine xSQ (z := ?_)) | ((with_reducible refine Knd.buildSlice ?_); ((refine Exec.buildSlice (tysOk.get rfl) rfl (tysOk.get rfl) rfl rfl rfl rfl rfl (by repeat (first | exact BuildP.nil | ((apply BuildP.one); (rfl); (rfl); (first | rfl | assumption); (repeat (first | exact SetL.z | apply SetL.s))))) rfl (fun b => ?_)))))) | (with_reducible first | apply Tr.next | apply Tr.region | apply Tr.nil))
    ((refine Tr.step rfl ?_))
    refine Exec.append (news := [.int .i64 (-1)]) rfl rfl (tysOk.get rfl) rfl (tysOk.get rfl) rfl rfl rfl rfl (by repeat (first | exact Del.here | apply Del.there)) (Src.box (by repeat (first | exact Has.here | apply Has.there))) rfl (by intro u hu; simp at hu; subst hu; rfl) (by omega) (by omega) rfl (fun A8 c8 hc8 => ?_)
    refine gvQ (r := box b 3 _) (k := ?_)
    rw [show intV ((k.reqs.take i).map fun _ => -1) ++ [Value.int .i64 (-1)] = intV ((k.reqs.take (i + 1)).map fun _ => -1) by rw [e3, intV_append]; rfl]
    repeat (first | ((with_reducible refine Tr.step rfl ?_); (first | (refine xmQ (z := ?_)) | (refine xfQ (z := ?_)) | (refine xdQ (z := ?_)) | (refine xSQ (z := ?_)))) | (with_reducible first | apply Tr.next | apply Tr.region | apply Tr.nil | apply Tr.in_normal))
    refine gvQ (r := box b4 _ _) (k := ?_)
    refine ftQ (r := ownS 3 1 A7 _ _ _) (k := ?_)
    refine ftQ (r := ownS 3 1 A6 _ _ _) (k := ?_)
    exact Tr.again (i + 1, (A6, c6), (A7, c7), (A8, c8)) ⟨by simp only; omega, hc6, hc7, hc8⟩ (by simp only; omega) hsQ
  have ei : i = k.reqs.length := by omega
  subst ei
  rw [List.take_length]
  refine pbQ (r := ownS 3 1 A1 _ _ _) (k := fun M1 hm1 ok1 => ?_)
  refine pbQ (r := ownS 3 1 A2 _ _ _) (k := fun M2 hm2 ok2 => ?_)
  refine pbQ (r := ownS 3 1 A3 _ _ _) (k := fun M3 hm3 ok3 => ?_)
  refine pbQ (r := ownS 3 1 A4 _ _ _) (k := fun M4 hm4 ok4 => ?_)
  refine pbQ (r := ownS 3 1 A5 _ _ _) (k := fun M5 hm5 ok5 => ?_)
  have hlast := hm1.trans (hm2.trans (hm3.trans (hm4.trans hm5)))
  repeat (first | ((with_reducible refine Tr.step rfl ?_); (first | (refine xwQ (z := ?_)) | (refine xiQ (z := ?_)) | (refine xWQ (z := ?_)))) | (with_reducible first | apply Tr.next | apply Tr.seq | apply Tr.region | apply Tr.nil | apply Tr.exit | apply Tr.ret | apply Tr.then_exit) | ((with_reducible refine Tr.in_exit ?_ ?_); (exact rfl)) | (refine Tr.cond_f rfl (by first | (with_reducible assumption) | omega) ?_))
  (refine Tr.done (by first | exact .inl rfl | exact .inr rfl) rfl (by repeat (first | exact RVs.nil | (apply RVs.cons; (exact RV.cellW (by rfl) (tysOk.get (by rfl)) (by rfl) (by repeat (first | exact Has.here | apply Has.there)) (by first | rfl | assumption))))) (by first | exact Mem.le.refl _ | assumption) (by exact ⟨[_, _], rfl⟩) ⟨rfl, ?_⟩)
  have i1 := Ints.ofOwn ok1 (by simp) hc1
  have i2 := Ints.ofOwn ok2 (by simp) hc2
  have i3 := Ints.ofOwn ok3 (by simp) hc3
  have i4 := Ints.ofOwn ok4 (by simp) hc4
  have i5 := Ints.ofOwn ok5 (by simp) hc5
  refine ⟨Af, cf, A1, c1, A2, c2, A3, c3, A4, c4, A5, c5, ?_, h3.mono RRowB.mono hlast, i1.mono RI.mono (hm2.trans (hm3.trans (hm4.trans hm5))), i2.mono RI.mono (hm3.trans (hm4.trans hm5)), i3.mono RI.mono (hm4.trans hm5), i4.mono RI.mono hm5, i5⟩
  simp only [fxB, beginF, List.length_map]
  rfl
end Go.Proofs.Ytgnipfjjkliibaa

/-
  Honour: checkBook.
  Conditions: none.
-/
namespace Go.Proofs.Ytgnipfjjkliibaa
open Go Bf
attribute [local irreducible] Tr Exec Stab HasTy Go.Addr.add IntKind.wrap
theorem formed_of {k : Bk} (h1 : k.sups.length ≤ 64) (h2 : k.reqs.length ≤ 64) (h3 : ∀ t y, t < k.sups.length → k.sups[t]? = some y → (0 ≤ y.amount ∧ y.amount ≤ 1048576) ∧ 0 ≤ y.ready ∧ y.ready ≤ 1024) (h4 : ∀ t y, t < k.reqs.length → k.reqs[t]? = some y → (0 ≤ y.amount ∧ y.amount ≤ 1048576) ∧ 0 ≤ y.due ∧ y.due ≤ 1024) (h5 : k.fits.length = k.sups.length) (h6 : ∀ t (y : List Bool), t < k.fits.length → k.fits[t]? = some y → y.length = k.reqs.length) : formedB k := by
  refine ⟨h1, h2, fun y hy => ?_, fun y hy => ?_, h5, fun y hy => ?_⟩
  · obtain ⟨t, ht, rfl⟩ := List.getElem_of_mem hy
    exact h3 t _ ht (List.getElem?_eq_getElem ht)
  · obtain ⟨t, ht, rfl⟩ := List.getElem_of_mem hy
    exact h4 t _ ht (List.getElem?_eq_getElem ht)
  · obtain ⟨t, ht, rfl⟩ := List.getElem_of_mem hy
    exact h6 t _ ht (List.getElem?_eq_getElem ht)
set_option maxHeartbeats 16000000 in
theorem checkBook_fn (M : Mem) (v : Value) (k : Bk) (h : RBk M v k) :
    FnP Try.prog 50 [v] M [] (fun _ _ A' => A' = [] ∧ validB k) (fun ch _ A' => ch = refCh ∧ A' = [] ∧ ¬ validB k) := by
  have hB := h
  obtain ⟨As, cs, Ar, cr, Af, cf, Ad, cd, rfl, h1, h2, h3⟩ := h
  have hpan := require_n M
  have hlS := h1.len_le
  have hlR := h2.len_le
  have hlF := h3.len_le
  refine FnP.intro Try.func50 rfl rfl Try.ntmps50 rfl fun E F => ?_
  by_cases g1 : k.sups.length ≤ 64 ∧ k.reqs.length ≤ 64
  rotate_left
  · by_cases g2 : k.sups.length ≤ 64
    · have g3 : decide ((k.reqs.length : Int) ≤ 64) = false := decide_eq_false (fun h => g1 ⟨g2, by omega⟩)
      (repeat (first | ((with_reducible refine Tr.step rfl ?_); (first | (refine xmQ (z := ?_)) | (refine xlQ (z := ?_)) | (refine xfQ (z := ?_)) | (refine xnQ (z := ?_)) | (refine xiQ (z := ?_)) | ((with_reducible refine Knd.pick ?_); (refine Exec.stab rfl (Stab.pick_td rfl (by omega) rfl) rfl ?_)) | ((with_reducible refine Knd.box ?_); (refine Exec.box rfl rfl (fun b => ?_))))) | (with_reducible first | apply Tr.next | apply Tr.seq | apply Tr.region | apply Tr.nil) | ((refine Tr.guard_y rfl rfl rfl (by first | (with_reducible assumption) | omega) ?_); (first | (refine xlQ (z := ?_)) | (refine xfQ (z := ?_)) | (refine xnQ (z := ?_)) | (refine xiQ (z := ?_))))))
      rw [g3]
      ((refine Tr.step rfl ?_))
      refine Exec.callP rfl hpan (List.Perm.refl _) rfl (fun v M' A' hm hR => hR.elim) (fun ch M' A' hm hR => ?_)
      obtain ⟨rfl, rfl, rfl⟩ := hR
      (repeat ((with_reducible refine Tr.then_panic ?_)))
      exact Tr.doneP (A' := []) (Mem.le.refl _) (by repeat (first | exact DropL.refl | apply DropL.skip)) ⟨rfl, rfl, fun hv => g1 ⟨hv.1.1, hv.1.2.1⟩⟩
    · (repeat (first | ((with_reducible refine Tr.step rfl ?_); (first | (refine xmQ (z := ?_)) | (refine xlQ (z := ?_)) | (refine xfQ (z := ?_)) | (refine xnQ (z := ?_)) | (refine xiQ (z := ?_)) | ((with_reducible refine Knd.pick ?_); (refine Exec.stab rfl (Stab.pick_fd rfl (by omega) rfl) rfl ?_)) | ((with_reducible refine Knd.box ?_); (refine Exec.box rfl rfl (fun b => ?_))))) | (with_reducible first | apply Tr.next | apply Tr.seq | apply Tr.region | apply Tr.nil) | (refine Tr.guard_n rfl rfl rfl (by first | (with_reducible assumption) | omega) rfl rfl ?_)))
      ((refine Tr.step rfl ?_))
      refine Exec.callP rfl hpan (List.Perm.refl _) rfl (fun v M' A' hm hR => hR.elim) (fun ch M' A' hm hR => ?_)
      obtain ⟨rfl, rfl, rfl⟩ := hR
      (repeat ((with_reducible refine Tr.then_panic ?_)))
      exact Tr.doneP (A' := []) (Mem.le.refl _) (by repeat (first | exact DropL.refl | apply DropL.skip)) ⟨rfl, rfl, fun hv => g2 hv.1.1⟩
  have g3 : decide ((k.reqs.length : Int) ≤ 64) = true := decide_eq_true (by omega)
  (repeat (first | ((with_reducible refine Tr.step rfl ?_); (first | (refine xmQ (z := ?_)) | (refine xlQ (z := ?_)) | (refine xfQ (z := ?_)) | (refine xnQ (z := ?_)) | (refine xiQ (z := ?_)) | ((with_reducible refine Knd.pick ?_); (refine Exec.stab rfl (Stab.pick_td rfl (by omega) rfl) rfl ?_)) | ((with_reducible refine Knd.box ?_); (refine Exec.box rfl rfl (fun b => ?_))))) | (with_reducible first | apply Tr.next | apply Tr.seq | apply Tr.region | apply Tr.nil) | ((refine Tr.guard_y rfl rfl rfl (by first | (with_reducible assumption) | omega) ?_); (first | (refine xlQ (z := ?_)) | (refine xfQ (z := ?_)) | (refine xnQ (z := ?_)) | (refine xiQ (z := ?_))))))
  rw [g3]
  ((refine Tr.step rfl ?_)); refine Exec.call0 rfl (require_y M) rfl ?_
  rintro _ _ _ rfl
  (repeat (first | ((with_reducible refine Tr.step rfl ?_); (first | (refine xmQ (z := ?_)) | (refine xlQ (z := ?_)) | (refine xfQ (z := ?_)) | (refine xnQ (z := ?_)))) | (with_reducible first | apply Tr.next | apply Tr.seq | apply Tr.region | apply Tr.nil | apply Tr.block)))
  generalize b = b1
  refine Tr.loop (α := Nat) (fun y => ⟨85, [(22, .int .i64 (y : Int)), (21, .int .i64 (k.sups.length : Int)), (20, .slice As k.sups.length cs), (1, .pointer (some ⟨b1, 0, none⟩))], [], M, box b1 27 [.int .i64 k.known, .slice As k.sups.length cs, .slice Ar k.reqs.length cr, .slice Af k.fits.length cf, .slice Ad k.reads cd] :: ([] ++ F)⟩)
    (fun y => y ≤ k.sups.length ∧ ∀ t z, t < y → k.sups[t]? = some z → (0 ≤ z.amount ∧ z.amount ≤ 1048576) ∧ 0 ≤ z.ready ∧ z.ready ≤ 1024) (fun y => k.sups.length - y) 0 ⟨Nat.zero_le _, fun t _ ht => by omega⟩ hsQ (fun y hy => ?_)
  obtain ⟨hy, hall⟩ := hy
  by_cases hlt : y < k.sups.length
  · obtain ⟨z, hz⟩ := get_of_lt hlt
    obtain ⟨hA, ch, hat, rfl⟩ := h1.elem hz
    (repeat (first | ((with_reducible refine Tr.step rfl ?_); (first | ((with_reducible refine Knd.load ?_); (first | (refine xlQ (z := ?_)) | (refine Exec.stab rfl (Stab.loadMA rfl (tysOk.get rfl) rfl (by assumption) (by first | rfl | assumption)) rfl ?_))) | (refine xfQ (z := ?_)) | (refine xiQ (z := ?_)) | (refine xWQ (z := ?_)) | ((with_reducible refine Knd.alloc ?_); (refine Exec.alloc (tysOk.get rfl) rfl rfl (fun b => ?_))) | (refine xxQ (z := ?_)))) | (with_reducible first | apply Tr.next | apply Tr.seq | apply Tr.region | apply Tr.nil | apply Tr.skip | apply Tr.block) | (refine Tr.cond_t rfl (by first | (with_reducible assumption) | omega) ?_)))
    ((refine Tr.step rfl ?_)); refine Exec.call0 rfl (between_fn M z.amount 0 1048576) rfl ?_
    rintro _ _ _ ⟨rfl, rfl⟩
    by_cases q1 : 0 ≤ z.amount ∧ z.amount ≤ 1048576
    rotate_left
    · rw [decide_eq_false q1]
      (repeat (first | ((with_reducible refine Tr.step rfl ?_); (first | (refine xmQ (z := ?_)) | ((with_reducible refine Knd.pick ?_); (refine Exec.stab rfl (Stab.pick_f rfl (by (with_reducible rfl)) rfl) rfl ?_)))) | (refine Tr.guard_s1 rfl rfl rfl (by (with_reducible rfl)) rfl rfl ?_)))
      ((refine Tr.step rfl ?_))
      refine Exec.callP rfl hpan (List.Perm.refl _) rfl (fun v M' A' hm hR => hR.elim) (fun ch M' A' hm hR => ?_)
      obtain ⟨rfl, rfl, rfl⟩ := hR
      (repeat (first | (with_reducible first | apply Tr.then_panic | apply Tr.in_panic)))
      exact Tr.doneP (A' := []) (Mem.le.refl _) (by repeat (first | exact DropL.refl | apply DropL.skip)) ⟨rfl, rfl, fun hv => q1 (hv.1.2.2.1 z (List.mem_of_getElem? hz)).1⟩
    rw [decide_eq_true q1]
    (repeat (first | ((with_reducible refine Tr.step rfl ?_); (with_reducible refine Knd.move ?_); (refine xmQ (z := ?_))) | ((refine Tr.guard_l rfl rfl rfl (by (with_reducible rfl)) ?_); (first | (refine xlQ (z := ?_)) | (refine xfQ (z := ?_))))))
    ((refine Tr.guard_l rfl rfl rfl (by (with_reducible rfl)) ?_)); refine Exec.call0 rfl (between_fn M z.ready 0 1024) rfl ?_
    rintro _ _ _ ⟨rfl, rfl⟩
    by_cases q2 : 0 ≤ z.ready ∧ z.ready ≤ 1024
    rotate_left
    · rw [decide_eq_false q2]
      (repeat (((with_reducible refine Tr.step rfl ?_); (with_reducible refine Knd.pick ?_); (refine Exec.stab rfl (Stab.pick_t rfl (by (with_reducible rfl)) rfl) rfl ?_))))
      ((refine Tr.step rfl ?_))
      refine Exec.callP rfl hpan (List.Perm.refl _) rfl (fun v M' A' hm hR => hR.elim) (fun ch M' A' hm hR => ?_)
      obtain ⟨rfl, rfl, rfl⟩ := hR
      (repeat (first | (with_reducible first | apply Tr.then_panic | apply Tr.in_panic)))
      exact Tr.doneP (A' := []) (Mem.le.refl _) (by repeat (first | exact DropL.refl | apply DropL.skip)) ⟨rfl, rfl, fun hv => q2 (hv.1.2.2.1 z (List.mem_of_getElem? hz)).2⟩
    rw [decide_eq_true q2]
    (repeat (((with_reducible refine Tr.step rfl ?_); (with_reducible refine Knd.pick ?_); (refine Exec.stab rfl (Stab.pick_t rfl (by (with_reducible rfl)) rfl) rfl ?_))))
    ((refine Tr.step rfl ?_)); refine Exec.call0 rfl (require_y M) rfl ?_
    rintro _ _ _ rfl
    (repeat (first | ((with_reducible refine Tr.step rfl ?_); (first | (refine xmQ (z := ?_)) | (refine xdQ (z := ?_)))) | (with_reducible first | apply Tr.next | apply Tr.region | apply Tr.nil | apply Tr.in_normal)))
    refine gvQ (r := box b _ _) (k := ?_)
    refine Tr.again (y + 1) ⟨by omega, fun t w ht hw => ?_⟩ (by omega) hsQ
    by_cases ht2 : t < y
    · exact hall t w ht2 hw
    · have : t = y := by omega
      subst this
      rw [hz] at hw
      cases hw
      exact ⟨q1, q2⟩
  have ey : y = k.sups.length := by omega
  subst ey
  (repeat (first | ((with_reducible refine Tr.step rfl ?_); (first | (refine xmQ (z := ?_)) | (refine xlQ (z := ?_)) | (refine xfQ (z := ?_)) | (refine xnQ (z := ?_)) | (refine xiQ (z := ?_)))) | (with_reducible first | apply Tr.next | apply Tr.seq | apply Tr.region | apply Tr.nil | apply Tr.block | apply Tr.exit | apply Tr.then_exit) | ((with_reducible refine Tr.in_exit ?_ ?_); (exact rfl)) | (refine Tr.cond_f rfl (by first | (with_reducible assumption) | omega) ?_)))
  refine Tr.loop (α := Nat) (fun y => ⟨85, [(39, .int .i64 (y : Int)), (38, .int .i64 (k.reqs.length : Int)), (37, .slice Ar k.reqs.length cr), (1, .pointer (some ⟨b1, 0, none⟩))], [], M, box b1 27 [.int .i64 k.known, .slice As k.sups.length cs, .slice Ar k.reqs.length cr, .slice Af k.fits.length cf, .slice Ad k.reads cd] :: ([] ++ F)⟩)
    (fun y => y ≤ k.reqs.length ∧ ∀ t z, t < y → k.reqs[t]? = some z → (0 ≤ z.amount ∧ z.amount ≤ 1048576) ∧ 0 ≤ z.due ∧ z.due ≤ 1024) (fun y => k.reqs.length - y) 0 ⟨Nat.zero_le _, fun t _ ht => by omega⟩ hsQ (fun y hy => ?_)
  have hsup := hall
  obtain ⟨hy, hall⟩ := hy
  by_cases hlt : y < k.reqs.length
  · obtain ⟨z, hz⟩ := get_of_lt hlt
    obtain ⟨hA, ch, hat, rfl⟩ := h2.elem hz
    (repeat (first | ((with_reducible refine Tr.step rfl ?_); (first | ((with_reducible refine Knd.load ?_); (first | (refine xlQ (z := ?_)) | (refine Exec.stab rfl (Stab.loadMA rfl (tysOk.get rfl) rfl (by assumption) (by first | rfl | assumption)) rfl ?_))) | (refine xfQ (z := ?_)) | (refine xiQ (z := ?_)) | (refine xWQ (z := ?_)) | ((with_reducible refine Knd.alloc ?_); (refine Exec.alloc (tysOk.get rfl) rfl rfl (fun b => ?_))) | (refine xxQ (z := ?_)))) | (with_reducible first | apply Tr.next | apply Tr.seq | apply Tr.region | apply Tr.nil | apply Tr.skip | apply Tr.block) | (refine Tr.cond_t rfl (by first | (with_reducible assumption) | omega) ?_)))
    ((refine Tr.step rfl ?_)); refine Exec.call0 rfl (between_fn M z.amount 0 1048576) rfl ?_
    rintro _ _ _ ⟨rfl, rfl⟩
    by_cases q1 : 0 ≤ z.amount ∧ z.amount ≤ 1048576
    rotate_left
    · rw [decide_eq_false q1]
      (repeat (first | ((with_reducible refine Tr.step rfl ?_); (first | (refine xmQ (z := ?_)) | ((with_reducible refine Knd.pick ?_); (refine Exec.stab rfl (Stab.pick_f rfl (by (with_reducible rfl)) rfl) rfl ?_)))) | (refine Tr.guard_s1 rfl rfl rfl (by (with_reducible rfl)) rfl rfl ?_)))
      ((refine Tr.step rfl ?_))
      refine Exec.callP rfl hpan (List.Perm.refl _) rfl (fun v M' A' hm hR => hR.elim) (fun ch M' A' hm hR => ?_)
      obtain ⟨rfl, rfl, rfl⟩ := hR
      (repeat (first | (with_reducible first | apply Tr.then_panic | apply Tr.in_panic)))
      exact Tr.doneP (A' := []) (Mem.le.refl _) (by repeat (first | exact DropL.refl | apply DropL.skip)) ⟨rfl, rfl, fun hv => q1 (hv.1.2.2.2.1 z (List.mem_of_getElem? hz)).1⟩
    rw [decide_eq_true q1]
    (repeat (first | ((with_reducible refine Tr.step rfl ?_); (with_reducible refine Knd.move ?_); (refine xmQ (z := ?_))) | ((refine Tr.guard_l rfl rfl rfl (by (with_reducible rfl)) ?_); (first | (refine xlQ (z := ?_)) | (refine xfQ (z := ?_))))))
    ((refine Tr.guard_l rfl rfl rfl (by (with_reducible rfl)) ?_)); refine Exec.call0 rfl (between_fn M z.due 0 1024) rfl ?_
    rintro _ _ _ ⟨rfl, rfl⟩
    by_cases q2 : 0 ≤ z.due ∧ z.due ≤ 1024
    rotate_left
    · rw [decide_eq_false q2]
      (repeat (((with_reducible refine Tr.step rfl ?_); (with_reducible refine Knd.pick ?_); (refine Exec.stab rfl (Stab.pick_t rfl (by (with_reducible rfl)) rfl) rfl ?_))))
      ((refine Tr.step rfl ?_))
      refine Exec.callP rfl hpan (List.Perm.refl _) rfl (fun v M' A' hm hR => hR.elim) (fun ch M' A' hm hR => ?_)
      obtain ⟨rfl, rfl, rfl⟩ := hR
      (repeat (first | (with_reducible first | apply Tr.then_panic | apply Tr.in_panic)))
      exact Tr.doneP (A' := []) (Mem.le.refl _) (by repeat (first | exact DropL.refl | apply DropL.skip)) ⟨rfl, rfl, fun hv => q2 (hv.1.2.2.2.1 z (List.mem_of_getElem? hz)).2⟩
    rw [decide_eq_true q2]
    (repeat (((with_reducible refine Tr.step rfl ?_); (with_reducible refine Knd.pick ?_); (refine Exec.stab rfl (Stab.pick_t rfl (by (with_reducible rfl)) rfl) rfl ?_))))
    ((refine Tr.step rfl ?_)); refine Exec.call0 rfl (require_y M) rfl ?_
    rintro _ _ _ rfl
    (repeat (first | ((with_reducible refine Tr.step rfl ?_); (first | (refine xmQ (z := ?_)) | (refine xdQ (z := ?_)))) | (with_reducible first | apply Tr.next | apply Tr.region | apply Tr.nil | apply Tr.in_normal)))
    refine gvQ (r := box b _ _) (k := ?_)
    refine Tr.again (y + 1) ⟨by omega, fun t w ht hw => ?_⟩ (by omega) hsQ
    by_cases ht2 : t < y
    · exact hall t w ht2 hw
    · have : t = y := by omega
      subst this
      rw [hz] at hw
      cases hw
      exact ⟨q1, q2⟩
  have ey : y = k.reqs.length := by omega
  subst ey
  have hreq := hall
  by_cases g5 : k.fits.length = k.sups.length
  rotate_left
  · have g6 : decide ((k.fits.length : Int) = (k.sups.length : Int)) = false := decide_eq_false (by omega)
    (repeat (first | ((with_reducible refine Tr.step rfl ?_); (first | (refine xlQ (z := ?_)) | (refine xfQ (z := ?_)) | (refine xnQ (z := ?_)) | (refine xiQ (z := ?_)))) | (with_reducible first | apply Tr.next | apply Tr.seq | apply Tr.region | apply Tr.nil | apply Tr.exit | apply Tr.then_exit) | ((with_reducible refine Tr.in_exit ?_ ?_); (exact rfl)) | (refine Tr.cond_f rfl (by first | (with_reducible assumption) | omega) ?_)))
    rw [g6]
    ((refine Tr.step rfl ?_))
    refine Exec.callP rfl hpan (List.Perm.refl _) rfl (fun v M' A' hm hR => hR.elim) (fun ch M' A' hm hR => ?_)
    obtain ⟨rfl, rfl, rfl⟩ := hR
    (repeat ((with_reducible refine Tr.then_panic ?_)))
    exact Tr.doneP (A' := []) (Mem.le.refl _) (by repeat (first | exact DropL.refl | apply DropL.skip)) ⟨rfl, rfl, fun hv => g5 hv.1.2.2.2.2.1⟩
  have g6 : decide ((k.fits.length : Int) = (k.sups.length : Int)) = true := decide_eq_true (by omega)
  (repeat (first | ((with_reducible refine Tr.step rfl ?_); (first | (refine xlQ (z := ?_)) | (refine xfQ (z := ?_)) | (refine xnQ (z := ?_)) | (refine xiQ (z := ?_)))) | (with_reducible first | apply Tr.next | apply Tr.seq | apply Tr.region | apply Tr.nil | apply Tr.exit | apply Tr.then_exit) | ((with_reducible refine Tr.in_exit ?_ ?_); (exact rfl)) | (refine Tr.cond_f rfl (by first | (with_reducible assumption) | omega) ?_)))
  rw [g6]
  ((refine Tr.step rfl ?_)); refine Exec.call0 rfl (require_y M) rfl ?_
  rintro _ _ _ rfl
  (repeat (first | ((with_reducible refine Tr.step rfl ?_); (first | (refine xmQ (z := ?_)) | (refine xlQ (z := ?_)) | (refine xfQ (z := ?_)) | (refine xnQ (z := ?_)))) | (with_reducible first | apply Tr.next | apply Tr.seq | apply Tr.region | apply Tr.nil | apply Tr.block)))
  refine Tr.loop (α := Nat) (fun y => ⟨85, [(64, .int .i64 (y : Int)), (63, .int .i64 (k.fits.length : Int)), (62, .slice Af k.fits.length cf), (1, .pointer (some ⟨b1, 0, none⟩))], [], M, box b1 27 [.int .i64 k.known, .slice As k.sups.length cs, .slice Ar k.reqs.length cr, .slice Af k.fits.length cf, .slice Ad k.reads cd] :: ([] ++ F)⟩)
    (fun y => y ≤ k.fits.length ∧ ∀ t (z : List Bool), t < y → k.fits[t]? = some z → z.length = k.reqs.length) (fun y => k.fits.length - y) 0 ⟨Nat.zero_le _, fun t _ ht => by omega⟩ hsQ (fun y hy => ?_)
  obtain ⟨hy, hall⟩ := hy
  by_cases hlt : y < k.fits.length
  · obtain ⟨z, hz⟩ := get_of_lt hlt
    obtain ⟨hA, ch, hat, Aw, kw, rfl, hzb⟩ := h3.elem hz
    by_cases q1 : z.length = k.reqs.length
    rotate_left
    · have g7 : decide ((z.length : Int) = (k.reqs.length : Int)) = false := decide_eq_false (by omega)
      (repeat (first | ((with_reducible refine Tr.step rfl ?_); (first | (refine xmQ (z := ?_)) | (refine xaQ (z := ?_)) | ((with_reducible refine Knd.load ?_); (first | (refine xlQ (z := ?_)) | (refine xMQ (z := ?_)))) | (refine xfQ (z := ?_)) | (refine xnQ (z := ?_)) | (refine xiQ (z := ?_)) | (refine xxQ (z := ?_)))) | (with_reducible first | apply Tr.next | apply Tr.seq | apply Tr.region | apply Tr.nil | apply Tr.skip | apply Tr.block) | (refine Tr.cond_t rfl (by first | (with_reducible assumption) | omega) ?_)))
      rw [g7]
      ((refine Tr.step rfl ?_))
      refine Exec.callP rfl hpan (List.Perm.refl _) rfl (fun v M' A' hm hR => hR.elim) (fun ch M' A' hm hR => ?_)
      obtain ⟨rfl, rfl, rfl⟩ := hR
      (repeat (first | (with_reducible first | apply Tr.then_panic | apply Tr.in_panic)))
      exact Tr.doneP (A' := []) (Mem.le.refl _) (by repeat (first | exact DropL.refl | apply DropL.skip)) ⟨rfl, rfl, fun hv => q1 (hv.1.2.2.2.2.2 z (List.mem_of_getElem? hz))⟩
    have g7 : decide ((z.length : Int) = (k.reqs.length : Int)) = true := decide_eq_true (by omega)
    (repeat (first | ((with_reducible refine Tr.step rfl ?_); (first | (refine xmQ (z := ?_)) | (refine xaQ (z := ?_)) | ((with_reducible refine Knd.load ?_); (first | (refine xlQ (z := ?_)) | (refine xMQ (z := ?_)))) | (refine xfQ (z := ?_)) | (refine xnQ (z := ?_)) | (refine xiQ (z := ?_)) | (refine xxQ (z := ?_)))) | (with_reducible first | apply Tr.next | apply Tr.seq | apply Tr.region | apply Tr.nil | apply Tr.skip | apply Tr.block) | (refine Tr.cond_t rfl (by first | (with_reducible assumption) | omega) ?_)))
    rw [g7]
    ((refine Tr.step rfl ?_)); refine Exec.call0 rfl (require_y M) rfl ?_
    rintro _ _ _ rfl
    (repeat (first | ((with_reducible refine Tr.step rfl ?_); (first | (refine xmQ (z := ?_)) | (refine xdQ (z := ?_)))) | (with_reducible first | apply Tr.next | apply Tr.region | apply Tr.nil | apply Tr.in_normal)))
    refine Tr.again (y + 1) ⟨by omega, fun t w ht hw => ?_⟩ (by omega) hsQ
    by_cases ht2 : t < y
    · exact hall t w ht2 hw
    · have : t = y := by omega
      subst this
      rw [hz] at hw
      cases hw
      exact q1
  have ey : y = k.fits.length := by omega
  subst ey
  have hfb := formed_of g1.1 g1.2 hsup hreq g5 hall
  have hfit := begin_fit hfb
  have hbl : (beginF k).nd.length = k.reqs.length := by simp [beginF]
  (repeat (first | ((with_reducible refine Tr.step rfl ?_); (with_reducible refine Knd.binOp ?_); (refine xiQ (z := ?_))) | (with_reducible first | apply Tr.next | apply Tr.seq | apply Tr.region | apply Tr.nil | apply Tr.exit | apply Tr.then_exit) | ((with_reducible refine Tr.in_exit ?_ ?_); (exact rfl)) | (refine Tr.cond_f rfl (by first | (with_reducible assumption) | omega) ?_)))
  (((apply Tr.draw); (kernel_rfl)); (refine tkQ 0 (hB := by exact fun _ h => h) (s := by exact swQ) (h := ?_)); (refine tkQ 2 (s := by exact sfQ) (h := ?_)); (refine tkQ 3 (s := by exact slQ) (h := ?_)); (refine tkQ 4 (s := by exact snQ) (h := ?_)); (refine TrA.eff 1 rfl (by kernel_rfl) (by exact .inl rfl) ?_))
  refine Exec.call0 rfl (hbegin_fn M _ k hB (by omega) (by omega)) rfl ?_
  rintro r1 M1 hm1 hR1
  refine ⟨hm1, (by exact fun _ h => h), ?_⟩
  have hfl := failing_own M1 _ (fxB k) (beginF k) k.reqs.length hR1 hfit (by omega)
  have hno : failF (fxB k) (beginF k) k.reqs.length ≠ [] → ¬ validB k := fun hne hv => hne hv.2
  have hyes : failF (fxB k) (beginF k) k.reqs.length = [] → validB k := fun he => ⟨hfb, he⟩
  generalize failF (fxB k) (beginF k) k.reqs.length = l at hfl hno hyes
  ((refine TrA.eff 5 rfl (by kernel_rfl) (by exact .inl rfl) ?_))
  refine Exec.call (A := []) rfl hfl (List.Perm.refl _) rfl ?_
  rintro _ M5 _ hm5 ⟨A9, c9, hc9, rfl, rfl⟩
  refine ⟨hm5, (by exact (Sub.mem (by repeat (first | exact Sub.refl | apply Sub.cons)))), ?_⟩
  ((refine tkQ 6 (s := by exact snQ) (h := ?_)); (refine tkQ 7 (s := by exact siQ) (h := ?_)))
  by_cases c7 : l = []
  rotate_left
  · have hl0 : ¬ ((l.length : Int) = 0) := fun h => c7 (List.eq_nil_of_length_eq_zero (by omega))
    rw [decide_eq_false hl0]
    ((refine TrA.eff 8 rfl (by kernel_rfl) (by exact .inl rfl) ?_))
    refine Exec.callP rfl (require_n M5) (List.Perm.refl _) rfl (fun v M' A' hm hR => hR.elim) (fun ch M' A' hm hR => ?_)
    obtain ⟨rfl, rfl, rfl⟩ := hR
    (skip)
    exact Tr.doneP (A' := []) (hm1.trans hm5) (by repeat (first | exact DropL.refl | apply DropL.skip)) ⟨rfl, rfl, hno c7⟩
  have hl0 : (l.length : Int) = 0 := by rw [c7]; rfl
  rw [decide_eq_true hl0]
  ((refine TrA.eff 8 rfl (by kernel_rfl) (by exact .inl rfl) ?_))
  refine Exec.call0 rfl (require_y M5) rfl ?_
  rintro _ _ _ rfl
  refine ⟨Mem.le.refl _, (by exact (Sub.mem (by repeat (first | exact Sub.refl | apply Sub.cons)))), ?_⟩
  have hlast := hm1.trans hm5
  ((refine TrA.done (by kernel_rfl) ?_))
  (skip)
  refine Tr.ofPost ?_
  (refine Tr.done (by first | exact .inl rfl | exact .inr rfl) rfl (by repeat (exact RVs.nil)) (by first | exact Mem.le.refl _ | assumption) (by exact ⟨[_, _], rfl⟩) ⟨rfl, ?_⟩)
  exact hyes c7
end Go.Proofs.Ytgnipfjjkliibaa

/-
  Honour: lose, late.
  Conditions: none.
-/
namespace Go.Proofs.Ytgnipfjjkliibaa
open Go Bf
attribute [local irreducible] Tr Exec Stab HasTy Go.Addr.add IntKind.wrap
def hpV (h : Hp) : Value := .agg #[.int .i64 h.kind, .int .i64 h.sup, .int .i64 h.req, .int .i64 h.day, .int .i64 h.amt]
set_option maxHeartbeats 16000000 in
theorem lose_fn (M : Mem) (v : Value) (x : Fx) (s : St) (h : Hp) (at_ : Nat) (hS : RSt M v x s) (hf : Fit x s) (hk : h.kind = 1) :
    FnP Try.prog 74 [v, hpV h, .int .i64 (at_ : Int)] M [] (fun r M' A' => A' = [] ∧ ∃ s', stepF x s h at_ = some s' ∧ RSt M' r x s') (fun ch _ A' => ch = refCh ∧ A' = [] ∧ stepF x s h at_ = none) := by
  have hS0 := hS
  obtain ⟨Af, cf, Aa, ca, Ad, cd, An, cn, Au, cu, Ab, cb, rfl, h1, h2, h3, h4, h5, h6⟩ := hS
  have z1 := hf.l64
  have z2 := hf.r64
  have z3 := hf.dyl
  have z4 := hf.brl
  obtain ⟨kd, sup, req, day, amt⟩ := h
  simp only at hk
  subst hk
  simp only [hpV]
  refine FnP.intro Try.func74 rfl rfl Try.ntmps74 rfl fun E F => ?_
  repeat (first | ((with_reducible refine Tr.step rfl ?_); (first | ((with_reducible refine Knd.box ?_); ((refine Exec.box rfl rfl (fun b => ?_)))) | ((with_reducible refine Knd.alloc ?_); ((refine Exec.alloc (tysOk.get rfl) rfl rfl (fun b => ?_)))))) | (with_reducible first | apply Tr.next | apply Tr.seq | apply Tr.region | apply Tr.nil))
  rename_i b3 b4
  generalize b = b6
  (((apply Tr.draw); (kernel_rfl)); (refine tkQ 0 (hB := by exact fun _ h => h) (s := by exact sfQ) (h := ?_)); (refine tkQ 2 (s := by exact sfQ) (h := ?_)); (refine tkQ 1 (s := by exact slQ) (h := ?_)); (refine tkQ 3 (s := by exact slQ) (h := ?_)); (refine tkQ 4 (s := by exact snQ) (h := ?_)); (refine tkQ 5 (s := by exact Stab.subi rfl rfl (by omega)) (h := ?_)); (refine TrA.eff 6 rfl (by kernel_rfl) (by exact .inl rfl) ?_))
  refine Exec.call0 rfl (between_fn M sup 0 ((s.am.length : Int) - 1)) rfl ?_
  rintro _ _ _ ⟨rfl, rfl⟩
  refine ⟨Mem.le.refl _, (by exact fun _ h => h), ?_⟩
  by_cases c1 : 0 ≤ sup ∧ sup ≤ (s.am.length : Int) - 1
  rotate_left
  · rw [decide_eq_false c1]
    ((refine tkQ 7 (s := by exact Stab.move rfl) (h := ?_)); ((refine tuQ 8 (h := ?_))); ((refine tuQ 9 (h := ?_))); ((refine tuQ 10 (h := ?_))); ((refine tuQ 11 (h := ?_))); ((refine tuQ 12 (h := ?_))); ((refine tuQ 13 (h := ?_))); ((refine tuQ 14 (h := ?_))); ((refine tuQ 15 (h := ?_))); ((refine tuQ 16 (h := ?_))); (refine tkQ 17 (s := by exact Stab.pick_f rfl (by (with_reducible rfl)) rfl) (h := ?_)); (refine TrA.eff 18 rfl (by kernel_rfl) (by exact .inl rfl) ?_))
    refine Exec.callP rfl (require_n M) (List.Perm.refl _) rfl (fun v M' A' hm hR => hR.elim) (fun ch M' A' hm hR => ?_)
    obtain ⟨rfl, rfl, rfl⟩ := hR
    repeat ((with_reducible refine Tr.then_panic ?_))
    exact Tr.doneP (A' := []) (Mem.le.refl _) (by repeat (first | exact DropL.refl | apply DropL.skip)) ⟨rfl, rfl, by rw [stepF, if_pos rfl, if_neg (fun h => c1 h.1)]⟩
  rw [decide_eq_true c1]
  obtain ⟨i, rfl, e1, hil⟩ := nat_of c1
  obtain ⟨a, ha⟩ := get_of_lt hil
  obtain ⟨hAa, hata⟩ := Ints.at h2 ha
  have had := getD_of (d := (0 : Int)) ha
  ((refine tkQ 7 (s := by exact Stab.move rfl) (h := ?_)); ((refine tgQ 8 (s := by exact sfQ) (h := ?_))); ((refine tgQ 10 (s := by exact sfQ) (h := ?_))); ((refine tgQ 12 (s := by exact sfQ) (h := ?_))); ((refine tgQ 9 (s := by exact slQ) (h := ?_))); ((refine tgQ 11 (s := by exact slQ) (h := ?_))); ((refine tgQ 13 (s := by exact slQ) (h := ?_))); ((refine tgQ 14 (s := by exact sxQ) (h := ?_))); ((refine tgQ 15 (s := by exact sMQ) (h := ?_))); (refine TrA.eff 16 rfl (by kernel_rfl) (by exact .inr ⟨_, _, _, rfl, rfl, rfl⟩) ?_))
  refine Exec.call0 rfl (between_fn M amt 1 a) rfl ?_
  rintro _ _ _ ⟨rfl, rfl⟩
  refine ⟨Mem.le.refl _, (by exact fun _ h => h), ?_⟩
  by_cases c2 : 1 ≤ amt ∧ amt ≤ a
  rotate_left
  · rw [decide_eq_false c2]
    ((refine tkQ 17 (s := by exact Stab.pick_t rfl (by (with_reducible rfl)) rfl) (h := ?_)); (refine TrA.eff 18 rfl (by kernel_rfl) (by exact .inl rfl) ?_))
    refine Exec.callP rfl (require_n M) (List.Perm.refl _) rfl (fun v M' A' hm hR => hR.elim) (fun ch M' A' hm hR => ?_)
    obtain ⟨rfl, rfl, rfl⟩ := hR
    repeat ((with_reducible refine Tr.then_panic ?_))
    exact Tr.doneP (A' := []) (Mem.le.refl _) (by repeat (first | exact DropL.refl | apply DropL.skip)) ⟨rfl, rfl, by rw [stepF, if_pos rfl, if_neg (fun h => c2 (by have := h.2; rw [e1, had] at this; exact this))]⟩
  rw [decide_eq_true c2]
  ((refine tkQ 17 (s := by exact Stab.pick_t rfl (by (with_reducible rfl)) rfl) (h := ?_)); (refine TrA.eff 18 rfl (by kernel_rfl) (by exact .inl rfl) ?_))
  refine Exec.call0 rfl (require_y M) rfl ?_
  rintro _ _ _ rfl
  refine ⟨Mem.le.refl _, (by exact fun _ h => h), ?_⟩
  ((refine TrA.done (by kernel_rfl) ?_))
  repeat (first | ((with_reducible refine Tr.step rfl ?_); ((refine xwQ (z := ?_)))) | (with_reducible first | apply Tr.next | apply Tr.seq | apply Tr.region))
  ((refine Tr.step rfl ?_))
  refine Exec.call (A := []) rfl (stclone_own M _ x s hS0 hf) (List.Perm.refl _) rfl ?_
  rintro _ _ _ - ⟨rfl, Af2, cf2, Au2, cu2, Aa2, ca2, Ad2, cd2, An2, cn2, Ab2, cb2, rfl, g1, g5, ⟨q1, q2, q3, q4⟩, rfl⟩
  simp only [List.cons_append, List.nil_append]
  repeat (first | ((with_reducible refine Tr.step rfl ?_); (first | (refine xWQ (z := ?_)) | ((with_reducible refine Knd.alloc ?_); ((refine Exec.alloc (tysOk.get rfl) rfl rfl (fun b => ?_)))))) | (with_reducible first | apply Tr.next | apply Tr.seq | apply Tr.nil))
  generalize b = b7
  refine Tr.own_some Aa2 (e := 3) (sz := 1) (m := s.am.length) (c := ca2) (xs := intV s.am) (by repeat (first | exact Has.here | apply Has.there)) (by omega) (fun hA2 => ?_)
  have hra := hf.amr a (List.mem_of_getElem? ha)
  have hnv : (intV s.am)[(i : Int).toNat]? = some (.int .i64 a) := by rw [Int.toNat_natCast]; exact intV_get ha
  have hla : (intV s.am).length = s.am.length := by rw [intV_length]
  (((apply Tr.draw); (kernel_rfl)); (refine tkQ 0 (hB := by exact fun _ h => h) (s := by exact sfQ) (h := ?_)); (refine tkQ 2 (s := by exact sfQ) (h := ?_)); (refine tkQ 6 (s := by exact sfQ) (h := ?_)); (refine tkQ 1 (s := by exact slQ) (h := ?_)); (refine tkQ 3 (s := by exact slQ) (h := ?_)); (refine tkQ 7 (s := by exact slQ) (h := ?_)); (refine tkQ 4 (s := by exact sxQ) (h := ?_)); (refine tkQ 5 (s := by exact Stab.loadO rfl (tysOk.get rfl) rfl (by repeat (first | exact Has.here | apply Has.there)) (by assumption)) (h := ?_)); (refine tkQ 8 (s := by exact Stab.subi rfl rfl (by omega)) (h := ?_)); (refine tkQ 9 (s := by exact sxQ) (h := ?_)); (refine TrA.effD 10 rfl (by kernel_rfl) (by kernel_rfl) (by exact .inl rfl) ?_); (((refine Knd.store ?_); ((refine Exec.storeO rfl rfl (tysOk.get rfl) rfl (by first | rfl | assumption) (by repeat (first | exact Upd.here | apply Upd.there)) (by omega) ?_)))); (refine ⟨_, fun _ h => h, ?_⟩); (refine TrA.done (by kernel_rfl) ?_))
  rw [Int.toNat_natCast i, intV_set]
  refine pbQ (r := ownS 3 1 Aa2 _ _ _) (k := fun M1 hm1 ok1 => ?_)
  have hI1 : Ints M1 (.slice Aa2 (s.am.set i (a - amt)).length ca2) (s.am.set i (a - amt)) := Ints.ofOwn ok1 (by rw [List.length_set]) q1
  refine pbQ (r := ownS 3 1 Ad2 _ _ _) (k := fun M2 hm2 ok2 => ?_)
  have hI2 : Ints M2 (.slice Ad2 s.dy.length cd2) s.dy := Ints.ofOwn ok2 rfl q2
  refine pbQ (r := ownS 3 1 An2 _ _ _) (k := fun M3 hm3 ok3 => ?_)
  have hI3 : Ints M3 (.slice An2 s.nd.length cn2) s.nd := Ints.ofOwn ok3 rfl q3
  have hm13 := hm1.trans (hm2.trans hm3)
  have hf2 : Fit x { s with am := s.am.set i (a - amt) } := hf.setAm (by omega) i
  have hfl := hfail_own M3 x { s with am := s.am.set i (a - amt) } at_ Af2 Aa2 Ad2 An2 Au2 Ab2 cf2 ca2 cd2 cn2 cu2 cb2 hf2 (g1.mono RRowB.mono hm13) (hI1.mono RI.mono (hm2.trans hm3)) (hI2.mono RI.mono hm3) hI3 (g5.mono RI.mono hm13) q4
  have hl2 : (s.am.set i (a - amt)).length = s.am.length := List.length_set
  dsimp only at hfl
  rw [hl2] at hfl
  repeat (first | ((with_reducible refine Tr.step rfl ?_); (first | (refine xmQ (z := ?_)) | (refine xwQ (z := ?_)))) | (with_reducible first | apply Tr.next | apply Tr.seq | apply Tr.region))
  ((refine Tr.step rfl ?_))
  refine Exec.call (A := [ownS 3 1 Ab2 s.br.length cb2 (intV s.br)]) rfl hfl (List.Perm.swap _ _ _) rfl ?_
  rintro _ _ _ - ⟨rfl, rfl⟩
  simp only [List.cons_append, List.nil_append]
  refine pbQ (r := ownS 3 1 Ab2 _ _ _) (k := fun M4 hm4 ok4 => ?_)
  have hbl : (markF x { s with am := s.am.set i (a - amt) } at_).br.length = s.br.length := markF_brl
  have hI4 : Ints M4 (.slice Ab2 (markF x { s with am := s.am.set i (a - amt) } at_).br.length cb2) (markF x { s with am := s.am.set i (a - amt) } at_).br := Ints.ofOwn ok4 hbl.symm q4
  have hlast := hm13.trans hm4
  repeat (first | ((with_reducible refine Tr.step rfl ?_); (first | (refine xwQ (z := ?_)) | (refine xWQ (z := ?_)))) | (with_reducible first | apply Tr.next | apply Tr.seq | apply Tr.region | apply Tr.nil | apply Tr.ret))
  refine Tr.ofPost ?_
  (refine Tr.done (by first | exact .inl rfl | exact .inr rfl) rfl (by repeat (first | exact RVs.nil | (apply RVs.cons; (exact RV.cellW (by rfl) (tysOk.get (by rfl)) (by rfl) (by repeat (first | exact Has.here | apply Has.there)) (by first | rfl | assumption))))) (by first | exact Mem.le.refl _ | assumption) (by exact ⟨[_, _, _, _], rfl⟩) ⟨rfl, ?_⟩)
  refine ⟨markF x { s with am := s.am.set i (a - amt) } at_, stepF_some.2 ?_, ?_⟩
  · have := Stp.lose (x := x) (s := s) (h := ⟨1, (i : Int), req, day, amt⟩) (at_ := at_) i rfl rfl hil c2.1 (by rw [had]; exact c2.2)
    rw [had] at this
    exact this
  · refine ⟨Af2, cf2, Aa2, ca2, Ad2, cd2, An2, cn2, Au2, cu2, Ab2, cb2, ?_, g1.mono RRowB.mono hlast, hI1.mono RI.mono (hm2.trans (hm3.trans hm4)), hI2.mono RI.mono (hm3.trans hm4), hI3.mono RI.mono hm4, g5.mono RI.mono hlast, hI4⟩
    rw [hbl]
    show _ = Value.agg #[_, .slice Aa2 (s.am.set i (a - amt)).length ca2, _, _, _, _]
    rw [hl2]
    rfl
end Go.Proofs.Ytgnipfjjkliibaa

/-
  Honour: late.
  Conditions: none.
-/
namespace Go.Proofs.Ytgnipfjjkliibaa
open Go Bf
attribute [local irreducible] Tr Exec Stab HasTy Go.Addr.add IntKind.wrap
set_option maxHeartbeats 16000000 in
theorem late_fn (M : Mem) (v : Value) (x : Fx) (s : St) (h : Hp) (at_ : Nat) (hS : RSt M v x s) (hf : Fit x s) (hk : h.kind = 2) :
    FnP Try.prog 75 [v, hpV h, .int .i64 (at_ : Int)] M [] (fun r M' A' => A' = [] ∧ ∃ s', stepF x s h at_ = some s' ∧ RSt M' r x s') (fun ch _ A' => ch = refCh ∧ A' = [] ∧ stepF x s h at_ = none) := by
  have hS0 := hS
  obtain ⟨Af, cf, Aa, ca, Ad, cd, An, cn, Au, cu, Ab, cb, rfl, h1, h2, h3, h4, h5, h6⟩ := hS
  have z1 := hf.l64
  have z2 := hf.r64
  have z3 := hf.dyl
  have z4 := hf.brl
  obtain ⟨kd, sup, req, day, amt⟩ := h
  simp only at hk
  subst hk
  simp only [hpV]
  refine FnP.intro Try.func75 rfl rfl Try.ntmps75 rfl fun E F => ?_
  repeat (first | ((with_reducible refine Tr.step rfl ?_); (first | ((with_reducible refine Knd.box ?_); ((refine Exec.box rfl rfl (fun b => ?_)))) | ((with_reducible refine Knd.alloc ?_); ((refine Exec.alloc (tysOk.get rfl) rfl rfl (fun b => ?_)))))) | (with_reducible first | apply Tr.next | apply Tr.seq | apply Tr.region | apply Tr.nil))
  rename_i b3 b4
  generalize b = b6
  (((apply Tr.draw); (kernel_rfl)); (refine tkQ 0 (hB := by exact fun _ h => h) (s := by exact sfQ) (h := ?_)); (refine tkQ 2 (s := by exact sfQ) (h := ?_)); (refine tkQ 1 (s := by exact slQ) (h := ?_)); (refine tkQ 3 (s := by exact slQ) (h := ?_)); (refine tkQ 4 (s := by exact snQ) (h := ?_)); (refine tkQ 5 (s := by exact Stab.subi rfl rfl (by omega)) (h := ?_)); (refine TrA.eff 6 rfl (by kernel_rfl) (by exact .inl rfl) ?_))
  refine Exec.call0 rfl (between_fn M sup 0 ((s.am.length : Int) - 1)) rfl ?_
  rintro _ _ _ ⟨rfl, rfl⟩
  refine ⟨Mem.le.refl _, (by exact fun _ h => h), ?_⟩
  by_cases c1 : 0 ≤ sup ∧ sup ≤ (s.am.length : Int) - 1
  rotate_left
  · rw [decide_eq_false c1]
    ((refine tkQ 7 (s := by exact Stab.move rfl) (h := ?_)); ((refine tuQ 8 (h := ?_))); ((refine tuQ 9 (h := ?_))); ((refine tuQ 10 (h := ?_))); ((refine tuQ 11 (h := ?_))); ((refine tuQ 12 (h := ?_))); ((refine tuQ 13 (h := ?_))); ((refine tuQ 14 (h := ?_))); ((refine tuQ 15 (h := ?_))); ((refine tuQ 16 (h := ?_))); (refine tkQ 17 (s := by exact Stab.pick_f rfl (by (with_reducible rfl)) rfl) (h := ?_)); (refine TrA.eff 18 rfl (by kernel_rfl) (by exact .inl rfl) ?_))
    refine Exec.callP rfl (require_n M) (List.Perm.refl _) rfl (fun v M' A' hm hR => hR.elim) (fun ch M' A' hm hR => ?_)
    obtain ⟨rfl, rfl, rfl⟩ := hR
    repeat ((with_reducible refine Tr.then_panic ?_))
    exact Tr.doneP (A' := []) (Mem.le.refl _) (by repeat (first | exact DropL.refl | apply DropL.skip)) ⟨rfl, rfl, by rw [stepF, if_neg (show ¬ (2 : Int) = 1 by decide), if_pos rfl, if_neg (fun h => c1 h.1)]⟩
  rw [decide_eq_true c1]
  obtain ⟨i, rfl, e1, hil⟩ := nat_of c1
  obtain ⟨a, ha⟩ := get_of_lt (xs := s.dy) (i := i) (by omega)
  obtain ⟨hAa, hata⟩ := Ints.at h3 ha
  have had := getD_of (d := (0 : Int)) ha
  ((refine tkQ 7 (s := by exact Stab.move rfl) (h := ?_)); ((refine tgQ 8 (s := by exact sfQ) (h := ?_))); ((refine tgQ 10 (s := by exact sfQ) (h := ?_))); ((refine tgQ 12 (s := by exact sfQ) (h := ?_))); ((refine tgQ 9 (s := by exact slQ) (h := ?_))); ((refine tgQ 11 (s := by exact slQ) (h := ?_))); ((refine tgQ 13 (s := by exact slQ) (h := ?_))); ((refine tgQ 14 (s := by exact sxQ) (h := ?_))); ((refine tgQ 15 (s := by exact sMQ) (h := ?_))); (refine TrA.eff 16 rfl (by kernel_rfl) (by exact .inr ⟨_, _, _, rfl, rfl, rfl⟩) ?_))
  refine Exec.call0 rfl (between_fn M day a 1024) rfl ?_
  rintro _ _ _ ⟨rfl, rfl⟩
  refine ⟨Mem.le.refl _, (by exact fun _ h => h), ?_⟩
  by_cases c2 : a ≤ day ∧ day ≤ 1024
  rotate_left
  · rw [decide_eq_false c2]
    ((refine tkQ 17 (s := by exact Stab.pick_t rfl (by (with_reducible rfl)) rfl) (h := ?_)); (refine TrA.eff 18 rfl (by kernel_rfl) (by exact .inl rfl) ?_))
    refine Exec.callP rfl (require_n M) (List.Perm.refl _) rfl (fun v M' A' hm hR => hR.elim) (fun ch M' A' hm hR => ?_)
    obtain ⟨rfl, rfl, rfl⟩ := hR
    repeat ((with_reducible refine Tr.then_panic ?_))
    exact Tr.doneP (A' := []) (Mem.le.refl _) (by repeat (first | exact DropL.refl | apply DropL.skip)) ⟨rfl, rfl, by rw [stepF, if_neg (show ¬ (2 : Int) = 1 by decide), if_pos rfl, if_neg (fun h => c2 (by have := h.2; rw [e1, had] at this; exact this))]⟩
  rw [decide_eq_true c2]
  ((refine tkQ 17 (s := by exact Stab.pick_t rfl (by (with_reducible rfl)) rfl) (h := ?_)); (refine TrA.eff 18 rfl (by kernel_rfl) (by exact .inl rfl) ?_))
  refine Exec.call0 rfl (require_y M) rfl ?_
  rintro _ _ _ rfl
  refine ⟨Mem.le.refl _, (by exact fun _ h => h), ?_⟩
  ((refine TrA.done (by kernel_rfl) ?_))
  repeat (first | ((with_reducible refine Tr.step rfl ?_); ((refine xwQ (z := ?_)))) | (with_reducible first | apply Tr.next | apply Tr.seq | apply Tr.region))
  ((refine Tr.step rfl ?_))
  refine Exec.call (A := []) rfl (stclone_own M _ x s hS0 hf) (List.Perm.refl _) rfl ?_
  rintro _ _ _ - ⟨rfl, Af2, cf2, Au2, cu2, Aa2, ca2, Ad2, cd2, An2, cn2, Ab2, cb2, rfl, g1, g5, ⟨q1, q2, q3, q4⟩, rfl⟩
  simp only [List.cons_append, List.nil_append]
  repeat (first | ((with_reducible refine Tr.step rfl ?_); (first | (refine xlQ (z := ?_)) | (refine xfQ (z := ?_)) | (refine xWQ (z := ?_)) | ((with_reducible refine Knd.alloc ?_); ((refine Exec.alloc (tysOk.get rfl) rfl rfl (fun b => ?_)))))) | (with_reducible first | apply Tr.next | apply Tr.seq | apply Tr.region | apply Tr.nil))
  generalize b = b7
  refine Tr.own_some Ad2 (e := 3) (sz := 1) (m := s.dy.length) (c := cd2) (xs := intV s.dy) (by repeat (first | exact Has.here | apply Has.there)) (by omega) (fun hA2 => ?_)
  have hra := hf.dyr a (List.mem_of_getElem? ha)
  have hla : (intV s.dy).length = s.dy.length := by rw [intV_length]
  repeat (first | ((with_reducible refine Tr.step rfl ?_); (first | (refine xmQ (z := ?_)) | (refine xwQ (z := ?_)) | ((with_reducible refine Knd.store ?_); ((refine Exec.storeO rfl rfl (tysOk.get rfl) rfl (by first | rfl | assumption) (by repeat (first | exact Upd.here | apply Upd.there)) (by omega) ?_))) | (refine xxQ (z := ?_)))) | (with_reducible first | apply Tr.next | apply Tr.seq | apply Tr.region | apply Tr.nil))
  rw [Int.toNat_natCast i, intV_set]
  refine pbQ (r := ownS 3 1 Aa2 _ _ _) (k := fun M1 hm1 ok1 => ?_)
  have hI1 : Ints M1 (.slice Aa2 s.am.length ca2) s.am := Ints.ofOwn ok1 rfl q1
  refine pbQ (r := ownS 3 1 Ad2 _ _ _) (k := fun M2 hm2 ok2 => ?_)
  have hI2 : Ints M2 (.slice Ad2 (s.dy.set i day).length cd2) (s.dy.set i day) := Ints.ofOwn ok2 (by rw [List.length_set]) q2
  refine pbQ (r := ownS 3 1 An2 _ _ _) (k := fun M3 hm3 ok3 => ?_)
  have hI3 : Ints M3 (.slice An2 s.nd.length cn2) s.nd := Ints.ofOwn ok3 rfl q3
  have hm13 := hm1.trans (hm2.trans hm3)
  have hf2 : Fit x { s with dy := s.dy.set i day } := hf.setDy (by omega) i
  have hfl := hfail_own M3 x { s with dy := s.dy.set i day } at_ Af2 Aa2 Ad2 An2 Au2 Ab2 cf2 ca2 cd2 cn2 cu2 cb2 hf2 (g1.mono RRowB.mono hm13) (hI1.mono RI.mono (hm2.trans hm3)) (hI2.mono RI.mono hm3) hI3 (g5.mono RI.mono hm13) q4
  have hl2 : (s.dy.set i day).length = s.dy.length := List.length_set
  dsimp only at hfl
  rw [hl2] at hfl
  repeat (fail)
  ((refine Tr.step rfl ?_))
  refine Exec.call (A := [ownS 3 1 Ab2 s.br.length cb2 (intV s.br)]) rfl hfl (List.Perm.swap _ _ _) rfl ?_
  rintro _ _ _ - ⟨rfl, rfl⟩
  simp only [List.cons_append, List.nil_append]
  refine pbQ (r := ownS 3 1 Ab2 _ _ _) (k := fun M4 hm4 ok4 => ?_)
  have hbl : (markF x { s with dy := s.dy.set i day } at_).br.length = s.br.length := markF_brl
  have hI4 : Ints M4 (.slice Ab2 (markF x { s with dy := s.dy.set i day } at_).br.length cb2) (markF x { s with dy := s.dy.set i day } at_).br := Ints.ofOwn ok4 hbl.symm q4
  have hlast := hm13.trans hm4
  repeat (first | ((with_reducible refine Tr.step rfl ?_); (first | (refine xwQ (z := ?_)) | (refine xWQ (z := ?_)))) | (with_reducible first | apply Tr.next | apply Tr.seq | apply Tr.region | apply Tr.nil | apply Tr.ret))
  refine Tr.ofPost ?_
  (refine Tr.done (by first | exact .inl rfl | exact .inr rfl) rfl (by repeat (first | exact RVs.nil | (apply RVs.cons; (exact RV.cellW (by rfl) (tysOk.get (by rfl)) (by rfl) (by repeat (first | exact Has.here | apply Has.there)) (by first | rfl | assumption))))) (by first | exact Mem.le.refl _ | assumption) (by exact ⟨[_, _, _, _], rfl⟩) ⟨rfl, ?_⟩)
  refine ⟨markF x { s with dy := s.dy.set i day } at_, stepF_some.2 ?_, ?_⟩
  · have := Stp.late (x := x) (s := s) (h := ⟨2, (i : Int), req, day, amt⟩) (at_ := at_) i rfl rfl hil (by rw [had]; exact c2.1) c2.2
    exact this
  · refine ⟨Af2, cf2, Aa2, ca2, Ad2, cd2, An2, cn2, Au2, cu2, Ab2, cb2, ?_, g1.mono RRowB.mono hlast, hI1.mono RI.mono (hm2.trans (hm3.trans hm4)), hI2.mono RI.mono (hm3.trans hm4), hI3.mono RI.mono hm4, g5.mono RI.mono hlast, hI4⟩
    rw [hbl]
    show _ = Value.agg #[_, _, .slice Ad2 (s.dy.set i day).length cd2, _, _, _]
    rw [hl2]
    rfl
end Go.Proofs.Ytgnipfjjkliibaa

/-
  Honour: ship.
  Conditions: none.
-/
namespace Go.Proofs.Ytgnipfjjkliibaa
open Go Bf
attribute [local irreducible] Tr Exec Stab HasTy Go.Addr.add IntKind.wrap
theorem ship_none {x : Fx} {s : St} {h : Hp} {at_ : Nat} (hk : h.kind = 3) (hn : ∀ i j : Nat, h.sup = (i : Int) → h.req = (j : Int) → i < s.am.length → j < s.nd.length → s.br.getD j 0 < 0 → (x.fits.getD i []).getD j false = true → s.dy.getD i 0 ≤ h.day → h.day ≤ x.due.getD j 0 → 1 ≤ h.amt → h.amt ≤ s.am.getD i 0 → h.amt ≤ s.nd.getD j 0 →
      failF x { s with am := s.am.set i (s.am.getD i 0 - h.amt), nd := s.nd.set j (s.nd.getD j 0 - h.amt) } s.nd.length = [] → False) : stepF x s h at_ = none := by
  cases hs : stepF x s h at_ with
  | none => rfl
  | some s' =>
    exfalso
    cases stepF_some.1 hs with
    | lose i k => omega
    | late i k => omega
    | ship i j k e1 e2 e3 e4 e5 e6 e7 e8 e9 e10 e11 e12 => exact hn i j e1 e2 e3 e4 e5 e6 e7 e8 e9 e10 e11 e12
set_option maxHeartbeats 16000000 in
theorem ship_fn (M : Mem) (v : Value) (x : Fx) (s : St) (h : Hp) (at_ : Nat) (hS : RSt M v x s) (hf : Fit x s) (hk : h.kind = 3) :
    FnP Try.prog 76 [v, hpV h, .int .i64 (at_ : Int)] M [] (fun r M' A' => A' = [] ∧ ∃ s', stepF x s h at_ = some s' ∧ RSt M' r x s') (fun ch _ A' => ch = refCh ∧ A' = [] ∧ stepF x s h at_ = none) := by
  have hS0 := hS
  obtain ⟨Af, cf, Aa, ca, Ad, cd, An, cn, Au, cu, Ab, cb, rfl, h1, h2, h3, h4, h5, h6⟩ := hS
  have z1 := hf.l64
  have z2 := hf.r64
  have z3 := hf.dyl
  have z4 := hf.brl
  have z5 := hf.dul
  have z6 := hf.fil
  have hnone := ship_none (x := x) (s := s) (h := h) (at_ := at_) hk
  obtain ⟨kd, sup, req, day, amt⟩ := h
  simp only at hk hnone
  subst hk
  simp only [hpV]
  refine FnP.intro Try.func76 rfl rfl Try.ntmps76 rfl fun E F => ?_
  repeat (first | ((with_reducible refine Tr.step rfl ?_); (first | ((with_reducible refine Knd.box ?_); ((refine Exec.box rfl rfl (fun b => ?_)))) | ((with_reducible refine Knd.alloc ?_); ((refine Exec.alloc (tysOk.get rfl) rfl rfl (fun b => ?_)))))) | (with_reducible first | apply Tr.next | apply Tr.seq | apply Tr.region | apply Tr.nil))
  rename_i b3 b4
  generalize b = b6
  (((apply Tr.draw); (kernel_rfl)); (refine tkQ 0 (hB := by exact fun _ h => h) (s := by exact sfQ) (h := ?_)); (refine tkQ 2 (s := by exact sfQ) (h := ?_)); (refine tkQ 1 (s := by exact slQ) (h := ?_)); (refine tkQ 3 (s := by exact slQ) (h := ?_)); (refine tkQ 4 (s := by exact Stab.assign rfl) (h := ?_)); (refine tkQ 5 (s := by exact Stab.assign rfl) (h := ?_)); (refine TrA.done (by kernel_rfl) ?_))
  repeat (first | ((with_reducible refine Tr.step rfl ?_); (first | (refine xmQ (z := ?_)) | (refine xlQ (z := ?_)) | (refine xfQ (z := ?_)) | (refine xnQ (z := ?_)) | ((with_reducible refine Knd.binOp ?_); ((refine Exec.stab rfl (Stab.subi rfl rfl (by omega)) rfl ?_))))) | (with_reducible first | apply Tr.next | apply Tr.seq | apply Tr.region))
  ((refine Tr.step rfl ?_)); refine Exec.call0 rfl (between_fn M sup 0 ((s.am.length : Int) - 1)) rfl ?_
  rintro _ _ _ ⟨rfl, rfl⟩
  by_cases c1 : 0 ≤ sup ∧ sup ≤ (s.am.length : Int) - 1
  rotate_left
  · rw [decide_eq_false c1]
    repeat (first | ((with_reducible refine Tr.step rfl ?_); (first | (refine xmQ (z := ?_)) | ((with_reducible refine Knd.pick ?_); ((refine Exec.stab rfl (Stab.pick_f rfl (by (with_reducible rfl)) rfl) rfl ?_))))) | (refine Tr.guard_s1 rfl rfl rfl (by (with_reducible rfl)) rfl rfl ?_))
    ((refine Tr.step rfl ?_))
    refine Exec.callP rfl (require_n M) (List.Perm.refl _) rfl (fun v M' A' hm hR => hR.elim) (fun ch M' A' hm hR => ?_)
    obtain ⟨rfl, rfl, rfl⟩ := hR
    repeat ((with_reducible refine Tr.then_panic ?_))
    exact Tr.doneP (A' := []) (Mem.le.refl _) (by repeat (first | exact DropL.refl | apply DropL.skip)) ⟨rfl, rfl, hnone fun i j a1 a2 a3 _ _ _ _ _ _ _ _ _ => c1 (by omega)⟩
  rw [decide_eq_true c1]
  obtain ⟨i, rfl, -, hil⟩ := nat_of c1
  repeat (first | ((with_reducible refine Tr.step rfl ?_); ((refine xmQ (z := ?_)))) | ((refine Tr.guard_l rfl rfl rfl (by (with_reducible rfl)) ?_); (first | (refine xmQ (z := ?_)) | (refine xlQ (z := ?_)) | (refine xfQ (z := ?_)) | (refine xnQ (z := ?_)) | ((with_reducible refine Knd.binOp ?_); ((refine Exec.stab rfl (Stab.subi rfl rfl (by omega)) rfl ?_))))))
  ((refine Tr.guard_l rfl rfl rfl (by (with_reducible rfl)) ?_)); refine Exec.call0 rfl (between_fn M req 0 ((s.nd.length : Int) - 1)) rfl ?_
  rintro _ _ _ ⟨rfl, rfl⟩
  by_cases c2 : 0 ≤ req ∧ req ≤ (s.nd.length : Int) - 1
  rotate_left
  · rw [decide_eq_false c2]
    repeat (((with_reducible refine Tr.step rfl ?_); (((with_reducible refine Knd.pick ?_); ((refine Exec.stab rfl (Stab.pick_t rfl (by (with_reducible rfl)) rfl) rfl ?_))))))
    ((refine Tr.step rfl ?_))
    refine Exec.callP rfl (require_n M) (List.Perm.refl _) rfl (fun v M' A' hm hR => hR.elim) (fun ch M' A' hm hR => ?_)
    obtain ⟨rfl, rfl, rfl⟩ := hR
    repeat ((with_reducible refine Tr.then_panic ?_))
    exact Tr.doneP (A' := []) (Mem.le.refl _) (by repeat (first | exact DropL.refl | apply DropL.skip)) ⟨rfl, rfl, hnone fun i j a1 a2 a3 a4 _ _ _ _ _ _ _ _ => c2 (by omega)⟩
  rw [decide_eq_true c2]
  obtain ⟨j, rfl, -, hjl⟩ := nat_of c2
  repeat (((with_reducible refine Tr.step rfl ?_); (((with_reducible refine Knd.pick ?_); ((refine Exec.stab rfl (Stab.pick_t rfl (by (with_reducible rfl)) rfl) rfl ?_))))))
  ((refine Tr.step rfl ?_)); refine Exec.call0 rfl (require_y M) rfl ?_
  rintro _ _ _ rfl
  obtain ⟨z, hz⟩ := get_of_lt (xs := s.br) (i := j) (by omega)
  obtain ⟨hAb, hatb⟩ := Ints.at h6 hz
  have hzd := getD_of (d := (0 : Int)) hz
  obtain ⟨a, ha⟩ := get_of_lt hil
  obtain ⟨hAa, hata⟩ := Ints.at h2 ha
  have had := getD_of (d := (0 : Int)) ha
  obtain ⟨u, hu⟩ := get_of_lt hjl
  obtain ⟨hAn, hatn⟩ := Ints.at h4 hu
  have hud := getD_of (d := (0 : Int)) hu
  obtain ⟨d, hd⟩ := get_of_lt (xs := s.dy) (i := i) (by omega)
  obtain ⟨hAd, hatd⟩ := Ints.at h3 hd
  have hdd := getD_of (d := (0 : Int)) hd
  obtain ⟨w, hw⟩ := get_of_lt (xs := x.due) (i := j) (by omega)
  obtain ⟨hAu, hatu⟩ := Ints.at h5 hw
  have hwd := getD_of (d := (0 : Int)) hw
  have hinj : ∀ i' j' : Nat, (i : Int) = (i' : Int) → (j : Int) = (j' : Int) → i' = i ∧ j' = j := fun _ _ e1 e2 => by omega
  have hpan := require_n M
  repeat (first | (with_reducible first | apply Tr.next | apply Tr.seq | apply Tr.nil))
  (((apply Tr.draw); (kernel_rfl)); (refine tkQ 0 (hB := by exact fun _ h => h) (s := by exact sfQ) (h := ?_)); (refine tkQ 2 (s := by exact Stab.move rfl) (h := ?_)); (refine tkQ 1 (s := by exact slQ) (h := ?_)); (refine tkQ 3 (s := by exact sxQ) (h := ?_)); (refine tkQ 4 (s := by exact sMQ) (h := ?_)); (refine tkQ 5 (s := by exact siQ) (h := ?_)))
  by_cases c3 : z < 0
  rotate_left
  · rw [decide_eq_false c3]
    ((refine tkQ 6 (s := by exact Stab.move rfl) (h := ?_)); ((refine tuQ 7 (h := ?_))); ((refine tuQ 8 (h := ?_))); ((refine tuQ 9 (h := ?_))); ((refine tuQ 10 (h := ?_))); (refine tkQ 11 (s := by exact Stab.pick_f rfl (by (with_reducible rfl)) rfl) (h := ?_)); (refine tkQ 12 (s := by exact Stab.move rfl) (h := ?_)); ((refine tuQ 13 (h := ?_))); ((refine tuQ 14 (h := ?_))); ((refine tuQ 15 (h := ?_))); ((refine tuQ 16 (h := ?_))); ((refine tuQ 17 (h := ?_))); ((refine tuQ 18 (h := ?_))); ((refine tuQ 19 (h := ?_))); ((refine tuQ 20 (h := ?_))); ((refine tuQ 21 (h := ?_))); ((refine tuQ 22 (h := ?_))); ((refine tuQ 23 (h := ?_))); ((refine tuQ 24 (h := ?_))); ((refine tuQ 25 (h := ?_))); (refine tkQ 26 (s := by exact Stab.pick_f rfl (by (with_reducible rfl)) rfl) (h := ?_)); (refine TrA.eff 27 rfl (by kernel_rfl) (by exact .inl rfl) ?_))
    refine Exec.callP rfl hpan (List.Perm.refl _) rfl (fun v M' A' hm hR => hR.elim) (fun ch M' A' hm hR => ?_)
    obtain ⟨rfl, rfl, rfl⟩ := hR
    repeat ((with_reducible refine Tr.then_panic ?_))
    exact Tr.doneP (A' := []) (Mem.le.refl _) (by repeat (first | exact DropL.refl | apply DropL.skip)) ⟨rfl, rfl, hnone fun i' j' a1 a2 a3 a4 a5 _ _ _ _ _ _ _ => c3 (by obtain ⟨rfl, rfl⟩ := hinj i' j' a1 a2; rw [hzd] at a5; exact a5)⟩
  rw [decide_eq_true c3]
  ((refine tkQ 6 (s := by exact Stab.move rfl) (h := ?_)); ((refine tgQ 7 (s := by exact swQ) (h := ?_))); ((refine tgQ 8 (s := by exact Stab.move rfl) (h := ?_))); ((refine tgQ 9 (s := by exact Stab.move rfl) (h := ?_))); (refine TrA.eff 10 rfl (by kernel_rfl) (by exact .inr ⟨_, _, _, rfl, rfl, rfl⟩) ?_))
  refine Exec.call0 rfl (hserves_fn M _ x s i j hS0 (by omega) (by omega) (by omega) (fun r hr => by rw [z5]; exact hf.row r hr)) rfl ?_
  rintro _ _ _ ⟨rfl, rfl⟩
  refine ⟨Mem.le.refl _, (by exact fun _ h => h), ?_⟩
  generalize hq : ((x.fits.getD i []).getD j false && decide (s.dy.getD i 0 ≤ x.due.getD j 0)) = q
  cases q
  · ((refine tkQ 11 (s := by exact Stab.pick_t rfl (by (with_reducible rfl)) rfl) (h := ?_)); (refine tkQ 12 (s := by exact Stab.move rfl) (h := ?_)); ((refine tuQ 13 (h := ?_))); ((refine tuQ 14 (h := ?_))); ((refine tuQ 15 (h := ?_))); ((refine tuQ 16 (h := ?_))); ((refine tuQ 17 (h := ?_))); ((refine tuQ 18 (h := ?_))); ((refine tuQ 19 (h := ?_))); ((refine tuQ 20 (h := ?_))); ((refine tuQ 21 (h := ?_))); ((refine tuQ 22 (h := ?_))); ((refine tuQ 23 (h := ?_))); ((refine tuQ 24 (h := ?_))); ((refine tuQ 25 (h := ?_))); (refine tkQ 26 (s := by exact Stab.pick_f rfl (by (with_reducible rfl)) rfl) (h := ?_)); (refine TrA.eff 27 rfl (by kernel_rfl) (by exact .inl rfl) ?_))
    refine Exec.callP rfl hpan (List.Perm.refl _) rfl (fun v M' A' hm hR => hR.elim) (fun ch M' A' hm hR => ?_)
    obtain ⟨rfl, rfl, rfl⟩ := hR
    repeat ((with_reducible refine Tr.then_panic ?_))
    exact Tr.doneP (A' := []) (Mem.le.refl _) (by repeat (first | exact DropL.refl | apply DropL.skip)) ⟨rfl, rfl, hnone fun i' j' a1 a2 a3 a4 a5 a6 a7 a8 _ _ _ _ => by
      obtain ⟨rfl, rfl⟩ := hinj i' j' a1 a2
      rw [a6, Bool.true_and, decide_eq_true (by omega)] at hq
      cases hq⟩
  have hq2 := (Bool.and_eq_true_iff.1 hq).1
  ((refine tkQ 11 (s := by exact Stab.pick_t rfl (by (with_reducible rfl)) rfl) (h := ?_)); (refine tkQ 12 (s := by exact Stab.move rfl) (h := ?_)); ((refine tgQ 13 (s := by exact sfQ) (h := ?_))); ((refine tgQ 15 (s := by exact sfQ) (h := ?_))); ((refine tgQ 17 (s := by exact Stab.move rfl) (h := ?_))); ((refine tgQ 20 (s := by exact sfQ) (h := ?_))); ((refine tgQ 22 (s := by exact Stab.move rfl) (h := ?_))); ((refine tgQ 14 (s := by exact slQ) (h := ?_))); ((refine tgQ 16 (s := by exact slQ) (h := ?_))); ((refine tgQ 21 (s := by exact slQ) (h := ?_))); ((refine tgQ 18 (s := by exact sxQ) (h := ?_))); ((refine tgQ 23 (s := by exact sxQ) (h := ?_))); ((refine tgQ 19 (s := by exact sMQ) (h := ?_))); ((refine tgQ 24 (s := by exact sMQ) (h := ?_))); (refine TrA.eff 25 rfl (by kernel_rfl) (by exact .inr ⟨_, _, _, rfl, rfl, rfl⟩) ?_))
  refine Exec.call0 rfl (between_fn M day d w) rfl ?_
  rintro _ _ _ ⟨rfl, rfl⟩
  refine ⟨Mem.le.refl _, (by exact fun _ h => h), ?_⟩
  by_cases c5 : d ≤ day ∧ day ≤ w
  rotate_left
  · rw [decide_eq_false c5]
    ((refine tkQ 26 (s := by exact Stab.pick_t rfl (by (with_reducible rfl)) rfl) (h := ?_)); (refine TrA.eff 27 rfl (by kernel_rfl) (by exact .inl rfl) ?_))
    refine Exec.callP rfl hpan (List.Perm.refl _) rfl (fun v M' A' hm hR => hR.elim) (fun ch M' A' hm hR => ?_)
    obtain ⟨rfl, rfl, rfl⟩ := hR
    repeat ((with_reducible refine Tr.then_panic ?_))
    exact Tr.doneP (A' := []) (Mem.le.refl _) (by repeat (first | exact DropL.refl | apply DropL.skip)) ⟨rfl, rfl, hnone fun i' j' a1 a2 a3 a4 a5 a6 a7 a8 _ _ _ _ => c5 (by obtain ⟨rfl, rfl⟩ := hinj i' j' a1 a2; rw [hdd] at a7; rw [hwd] at a8; exact ⟨a7, a8⟩)⟩
  rw [decide_eq_true c5]
  ((refine tkQ 26 (s := by exact Stab.pick_t rfl (by (with_reducible rfl)) rfl) (h := ?_)); (refine TrA.eff 27 rfl (by kernel_rfl) (by exact .inl rfl) ?_))
  refine Exec.call0 rfl (require_y M) rfl ?_
  rintro _ _ _ rfl
  refine ⟨Mem.le.refl _, (by exact fun _ h => h), ?_⟩
  ((refine TrA.done (by kernel_rfl) ?_))
  repeat (first | (with_reducible first | apply Tr.next | apply Tr.seq))
  (((apply Tr.draw); (kernel_rfl)); (refine tkQ 0 (hB := by exact fun _ h => h) (s := by exact sfQ) (h := ?_)); (refine tkQ 2 (s := by exact sfQ) (h := ?_)); (refine tkQ 4 (s := by exact Stab.move rfl) (h := ?_)); (refine tkQ 7 (s := by exact sfQ) (h := ?_)); (refine tkQ 9 (s := by exact Stab.move rfl) (h := ?_)); (refine tkQ 1 (s := by exact slQ) (h := ?_)); (refine tkQ 3 (s := by exact slQ) (h := ?_)); (refine tkQ 8 (s := by exact slQ) (h := ?_)); (refine tkQ 5 (s := by exact sxQ) (h := ?_)); (refine tkQ 10 (s := by exact sxQ) (h := ?_)); (refine tkQ 6 (s := by exact sMQ) (h := ?_)); (refine tkQ 11 (s := by exact sMQ) (h := ?_)); (refine tkQ 12 (s := by exact Stab.min2 rfl rfl) (h := ?_)); (refine TrA.eff 13 rfl (by kernel_rfl) (by exact .inl rfl) ?_))
  refine Exec.call0 rfl (between_fn M amt 1 (min a u)) rfl ?_
  rintro _ _ _ ⟨rfl, rfl⟩
  refine ⟨Mem.le.refl _, (by exact fun _ h => h), ?_⟩
  by_cases c6 : 1 ≤ amt ∧ amt ≤ min a u
  rotate_left
  · rw [decide_eq_false c6]
    ((refine TrA.eff 14 rfl (by kernel_rfl) (by exact .inl rfl) ?_))
    refine Exec.callP rfl hpan (List.Perm.refl _) rfl (fun v M' A' hm hR => hR.elim) (fun ch M' A' hm hR => ?_)
    obtain ⟨rfl, rfl, rfl⟩ := hR
    repeat ((with_reducible refine Tr.then_panic ?_))
    exact Tr.doneP (A' := []) (Mem.le.refl _) (by repeat (first | exact DropL.refl | apply DropL.skip)) ⟨rfl, rfl, hnone fun i' j' a1 a2 a3 a4 a5 a6 a7 a8 a9 a10 a11 _ => c6 (by obtain ⟨rfl, rfl⟩ := hinj i' j' a1 a2; rw [had] at a10; rw [hud] at a11; omega)⟩
  rw [decide_eq_true c6]
  ((refine TrA.eff 14 rfl (by kernel_rfl) (by exact .inl rfl) ?_))
  refine Exec.call0 rfl (require_y M) rfl ?_
  rintro _ _ _ rfl
  refine ⟨Mem.le.refl _, (by exact fun _ h => h), ?_⟩
  ((refine TrA.done (by kernel_rfl) ?_))
  repeat (first | ((with_reducible refine Tr.step rfl ?_); ((refine xwQ (z := ?_)))) | (with_reducible first | apply Tr.next | apply Tr.seq | apply Tr.region))
  ((refine Tr.step rfl ?_))
  refine Exec.call (A := []) rfl (stclone_own M _ x s hS0 hf) (List.Perm.refl _) rfl ?_
  rintro _ _ _ - ⟨rfl, Af2, cf2, Au2, cu2, Aa2, ca2, Ad2, cd2, An2, cn2, Ab2, cb2, rfl, g1, g5, ⟨q1, q2, q3, q4⟩, rfl⟩
  simp only [List.cons_append, List.nil_append]
  clear hatb hata hatn hatd hatu h1 h2 h3 h4 h5 h6 hS0
  repeat (first | ((with_reducible refine Tr.step rfl ?_); (first | (refine xWQ (z := ?_)) | ((with_reducible refine Knd.alloc ?_); ((refine Exec.alloc (tysOk.get rfl) rfl rfl (fun b => ?_)))))) | (with_reducible first | apply Tr.next | apply Tr.seq | apply Tr.nil))
  generalize b = b9
  refine Tr.own_some Aa2 (e := 3) (sz := 1) (m := s.am.length) (c := ca2) (xs := intV s.am) (by repeat (first | exact Has.here | apply Has.there)) (by omega) (fun hA2 => ?_)
  refine Tr.own_some An2 (e := 3) (sz := 1) (m := s.nd.length) (c := cn2) (xs := intV s.nd) (by repeat (first | exact Has.here | apply Has.there)) (by omega) (fun hN2 => ?_)
  have hra := hf.amr a (List.mem_of_getElem? ha)
  have hru := hf.ndr u (List.mem_of_getElem? hu)
  have hnv : (intV s.am)[(i : Int).toNat]? = some (.int .i64 a) := by rw [Int.toNat_natCast]; exact intV_get ha
  have hla : (intV s.am).length = s.am.length := by rw [intV_length]
  have hnv2 : (intV s.nd)[(j : Int).toNat]? = some (.int .i64 u) := by rw [Int.toNat_natCast]; exact intV_get hu
  have hln : (intV s.nd).length = s.nd.length := by rw [intV_length]
  (((apply Tr.draw); (kernel_rfl)); (refine tkQ 0 (hB := by exact fun _ h => h) (s := by exact sfQ) (h := ?_)); (refine tkQ 2 (s := by exact Stab.move rfl) (h := ?_)); (refine tkQ 5 (s := by exact sfQ) (h := ?_)); (refine tkQ 1 (s := by exact slQ) (h := ?_)); (refine tkQ 6 (s := by exact slQ) (h := ?_)); (refine tkQ 3 (s := by exact sxQ) (h := ?_)); (refine tkQ 4 (s := by exact Stab.loadO rfl (tysOk.get rfl) rfl (by repeat (first | exact Has.here | apply Has.there)) (by assumption)) (h := ?_)); (refine tkQ 7 (s := by exact Stab.subi rfl rfl (by omega)) (h := ?_)); (refine tkQ 8 (s := by exact sxQ) (h := ?_)); (refine TrA.effD 9 rfl (by kernel_rfl) (by kernel_rfl) (by exact .inl rfl) ?_); (((refine Knd.store ?_); ((refine Exec.storeO rfl rfl (tysOk.get rfl) rfl (by first | rfl | assumption) (by repeat (first | exact Upd.here | apply Upd.there)) (by omega) ?_)))); (refine ⟨_, fun _ h => h, ?_⟩); (refine TrA.done (by kernel_rfl) ?_))
  rw [Int.toNat_natCast i, intV_set]
  repeat (first | (with_reducible first | apply Tr.next | apply Tr.seq))
  (((apply Tr.draw); (kernel_rfl)); (refine tkQ 0 (hB := by exact fun _ h => h) (s := by exact sfQ) (h := ?_)); (refine tkQ 2 (s := by exact Stab.move rfl) (h := ?_)); (refine tkQ 5 (s := by exact sfQ) (h := ?_)); (refine tkQ 1 (s := by exact slQ) (h := ?_)); (refine tkQ 6 (s := by exact slQ) (h := ?_)); (refine tkQ 3 (s := by exact sxQ) (h := ?_)); (refine tkQ 4 (s := by exact Stab.loadO rfl (tysOk.get rfl) rfl (by repeat (first | exact Has.here | apply Has.there)) (by assumption)) (h := ?_)); (refine tkQ 7 (s := by exact Stab.subi rfl rfl (by omega)) (h := ?_)); (refine tkQ 8 (s := by exact sxQ) (h := ?_)); (refine TrA.effD 9 rfl (by kernel_rfl) (by kernel_rfl) (by exact .inl rfl) ?_); (((refine Knd.store ?_); ((refine Exec.storeO rfl rfl (tysOk.get rfl) rfl (by first | rfl | assumption) (by repeat (first | exact Upd.here | apply Upd.there)) (by omega) ?_)))); (refine ⟨_, fun _ h => h, ?_⟩); (refine TrA.done (by kernel_rfl) ?_))
  rw [Int.toNat_natCast j, intV_set]
  refine pbQ (r := ownS 3 1 Aa2 _ _ _) (k := fun M1 hm1 ok1 => ?_)
  have hI1 : Ints M1 (.slice Aa2 (s.am.set i (a - amt)).length ca2) (s.am.set i (a - amt)) := Ints.ofOwn ok1 (by rw [List.length_set]) q1
  refine pbQ (r := ownS 3 1 Ad2 _ _ _) (k := fun M2 hm2 ok2 => ?_)
  have hI2 : Ints M2 (.slice Ad2 s.dy.length cd2) s.dy := Ints.ofOwn ok2 rfl q2
  refine pbQ (r := ownS 3 1 An2 _ _ _) (k := fun M3 hm3 ok3 => ?_)
  have hI3 : Ints M3 (.slice An2 (s.nd.set j (u - amt)).length cn2) (s.nd.set j (u - amt)) := Ints.ofOwn ok3 (by rw [List.length_set]) q3
  refine pbQ (r := ownS 3 1 Ab2 _ _ _) (k := fun M4 hm4 ok4 => ?_)
  have hI4 : Ints M4 (.slice Ab2 s.br.length cb2) s.br := Ints.ofOwn ok4 rfl q4
  clear ok1 ok2 ok3 ok4
  have hm14 := hm1.trans (hm2.trans (hm3.trans hm4))
  have hf2 : Fit x { s with am := s.am.set i (a - amt), nd := s.nd.set j (u - amt) } := (hf.setAm (v := a - amt) (by omega) i).setNd (v := u - amt) (by show 0 ≤ u - amt ∧ u - amt ≤ 1048576; omega) j
  have hS2 : RSt M4 (.agg #[.slice Af2 x.fits.length cf2, .slice Aa2 s.am.length ca2, .slice Ad2 s.dy.length cd2, .slice An2 s.nd.length cn2, .slice Au2 x.due.length cu2, .slice Ab2 s.br.length cb2]) x { s with am := s.am.set i (a - amt), nd := s.nd.set j (u - amt) } := by
    refine ⟨Af2, cf2, Aa2, ca2, Ad2, cd2, An2, cn2, Au2, cu2, Ab2, cb2, ?_, g1.mono RRowB.mono hm14, hI1.mono RI.mono (hm2.trans (hm3.trans hm4)), hI2.mono RI.mono (hm3.trans hm4), hI3.mono RI.mono hm4, g5.mono RI.mono hm14, hI4⟩
    show _ = Value.agg #[_, .slice Aa2 (s.am.set i (a - amt)).length ca2, _, .slice An2 (s.nd.set j (u - amt)).length cn2, _, _]
    rw [List.length_set, List.length_set]
  have hfl := failing_own M4 _ x { s with am := s.am.set i (a - amt), nd := s.nd.set j (u - amt) } s.nd.length hS2 hf2 (by show s.nd.length ≤ (s.nd.set j (u - amt)).length; rw [List.length_set]; exact Nat.le_refl _)
  have hstep : failF x { s with am := s.am.set i (a - amt), nd := s.nd.set j (u - amt) } s.nd.length = [] → stepF x s ⟨3, (i : Int), (j : Int), day, amt⟩ at_ = some { s with am := s.am.set i (a - amt), nd := s.nd.set j (u - amt) } := fun hnil => stepF_some.2 (by
    have := Stp.ship (x := x) (s := s) (h := ⟨3, (i : Int), (j : Int), day, amt⟩) (at_ := at_) i j rfl rfl rfl hil hjl (by rw [hzd]; exact c3) hq2 (by rw [hdd]; exact c5.1) (by rw [hwd]; exact c5.2) c6.1 (by rw [had]; show amt ≤ a; omega) (by rw [hud]; show amt ≤ u; omega) (by rw [had, hud]; exact hnil)
    rw [had, hud] at this
    exact this)
  have hno : failF x { s with am := s.am.set i (a - amt), nd := s.nd.set j (u - amt) } s.nd.length ≠ [] → stepF x s ⟨3, (i : Int), (j : Int), day, amt⟩ at_ = none := fun hne => hnone fun i' j' a1 a2 a3 a4 a5 a6 a7 a8 a9 a10 a11 a12 => hne (by
    obtain ⟨rfl, rfl⟩ := hinj i' j' a1 a2
    rw [had, hud] at a12
    exact a12)
  clear hnone
  generalize failF x { s with am := s.am.set i (a - amt), nd := s.nd.set j (u - amt) } s.nd.length = l at hfl hstep hno
  repeat (first | ((with_reducible refine Tr.step rfl ?_); (first | ((with_reducible refine Knd.load ?_); (first | (refine xlQ (z := ?_)) | (refine xwQ (z := ?_)))) | (refine xfQ (z := ?_)) | (refine xnQ (z := ?_)))) | (with_reducible first | apply Tr.next | apply Tr.seq | apply Tr.region))
  ((refine Tr.step rfl ?_))
  refine Exec.call (A := []) rfl hfl (List.Perm.refl _) rfl ?_
  rintro _ M5 _ hm5 ⟨A9, c9, hc9, rfl, rfl⟩
  simp only [List.cons_append, List.nil_append]
  repeat (((with_reducible refine Tr.step rfl ?_); (first | (refine xnQ (z := ?_)) | (refine xiQ (z := ?_)))))
  by_cases c7 : l = []
  rotate_left
  · have hl0 : ¬ ((l.length : Int) = 0) := fun h => c7 (List.eq_nil_of_length_eq_zero (by omega))
    rw [decide_eq_false hl0]
    ((refine Tr.step rfl ?_))
    refine Exec.callP rfl (require_n M5) (List.Perm.refl _) rfl (fun v M' A' hm hR => hR.elim) (fun ch M' A' hm hR => ?_)
    obtain ⟨rfl, rfl, rfl⟩ := hR
    repeat ((with_reducible refine Tr.then_panic ?_))
    exact Tr.doneP (A' := []) (hm14.trans hm5) (by repeat (first | exact DropL.refl | apply DropL.skip)) ⟨rfl, rfl, hno c7⟩
  · have hl0 : (l.length : Int) = 0 := by rw [c7]; rfl
    rw [decide_eq_true hl0]
    ((refine Tr.step rfl ?_)); refine Exec.call0 rfl (require_y M5) rfl ?_
    rintro _ _ _ rfl
    have hlast := hm14.trans hm5
    repeat (first | ((with_reducible refine Tr.step rfl ?_); (first | (refine xwQ (z := ?_)) | (refine xWQ (z := ?_)))) | (with_reducible first | apply Tr.next | apply Tr.seq | apply Tr.region | apply Tr.nil | apply Tr.ret))
    refine Tr.ofPost ?_
    (refine Tr.done (by first | exact .inl rfl | exact .inr rfl) rfl (by repeat (first | exact RVs.nil | (apply RVs.cons; (exact RV.cellW (by rfl) (tysOk.get (by rfl)) (by rfl) (by repeat (first | exact Has.here | apply Has.there)) (by first | rfl | assumption))))) (by first | exact Mem.le.refl _ | assumption) (by exact ⟨[_, _, _, _, _], rfl⟩) ⟨rfl, ?_⟩)
    exact ⟨_, hstep c7, hS2.mono hm5⟩
end Go.Proofs.Ytgnipfjjkliibaa

/-
  Honour: what happened before, and what is left of it. Plain.
  Conditions: none.
-/
namespace Go.Proofs.Ytgnipfjjkliibaa
open Go Bf
def zH : Hp := ⟨0, 0, 0, 0, 0⟩
def shipA (l : List Hp) (i : Nat) : Int := (l.map fun h => if h.kind = 3 ∧ h.sup = (i : Int) then h.amt else 0).sum
def shipN (l : List Hp) (k : Nat) : Int := (l.map fun h => if h.kind = 3 ∧ h.req = (k : Int) then h.amt else 0).sum
def lossA (l : List Hp) (i : Nat) : Int := (l.map fun h => if h.kind = 1 ∧ h.sup = (i : Int) then h.amt else 0).sum
def lateD (i : Nat) : Int → List Hp → Int
  | d, [] => d
  | d, h :: l => lateD i (if h.kind = 2 ∧ h.sup = (i : Int) then max d h.day else d) l
/-- a happening in its ranges -/
def OkH (n m : Nat) (h : Hp) : Prop := (0 ≤ h.sup ∧ h.sup < (n : Int)) ∧ ((h.kind = 1 ∧ 1 ≤ h.amt) ∨ (h.kind = 2 ∧ h.day ≤ 1024) ∨ (h.kind = 3 ∧ 1 ≤ h.amt ∧ 0 ≤ h.req ∧ h.req < (m : Int)))
theorem getD_set (l : List Int) (i k : Nat) (v : Int) (h : i < l.length) : (l.set i v).getD k 0 = if k = i then v else l.getD k 0 := by
  rw [List.getD_eq_getElem?_getD, List.getD_eq_getElem?_getD]
  by_cases e : k = i
  · subst e; rw [if_pos rfl, List.getElem?_set_self h]; rfl
  · rw [if_neg e, List.getElem?_set_ne (by omega)]
theorem shipA_cons (h : Hp) (l : List Hp) (i : Nat) : shipA (h :: l) i = (if h.kind = 3 ∧ h.sup = (i : Int) then h.amt else 0) + shipA l i := rfl
theorem shipN_cons (h : Hp) (l : List Hp) (i : Nat) : shipN (h :: l) i = (if h.kind = 3 ∧ h.req = (i : Int) then h.amt else 0) + shipN l i := rfl
theorem lossA_cons (h : Hp) (l : List Hp) (i : Nat) : lossA (h :: l) i = (if h.kind = 1 ∧ h.sup = (i : Int) then h.amt else 0) + lossA l i := rfl
theorem Stp.len {x : Fx} {s s' : St} {h : Hp} {at_ : Nat} (hs : Stp x s h at_ s') : s'.am.length = s.am.length ∧ s'.nd.length = s.nd.length ∧ s'.dy.length = s.dy.length ∧ s'.br.length = s.br.length := by
  cases hs with
  | lose => exact ⟨List.length_set, rfl, rfl, markF_brl⟩
  | late => exact ⟨rfl, rfl, List.length_set, markF_brl⟩
  | ship => exact ⟨List.length_set, List.length_set, rfl, rfl⟩
theorem Stp.okH {x : Fx} {s s' : St} {h : Hp} {at_ : Nat} (hs : Stp x s h at_ s') : OkH s.am.length s.nd.length h := by
  cases hs with
  | lose i k e1 e2 e3 e4 => exact ⟨by omega, .inl ⟨k, e3⟩⟩
  | late i k e1 e2 e3 e4 => exact ⟨by omega, .inr (.inl ⟨k, e4⟩)⟩
  | ship i j k e1 e2 e3 e4 e5 e6 e7 e8 e9 => exact ⟨by omega, .inr (.inr ⟨k, e9, by omega, by omega⟩)⟩
theorem Stp.eff {x : Fx} {s s' : St} {h : Hp} {at_ : Nat} (hs : Stp x s h at_ s') (hd : s.dy.length = s.am.length) (i : Nat) :
    s'.am.getD i 0 = s.am.getD i 0 - (if h.kind = 3 ∧ h.sup = (i : Int) then h.amt else 0) - (if h.kind = 1 ∧ h.sup = (i : Int) then h.amt else 0) ∧ s'.nd.getD i 0 = s.nd.getD i 0 - (if h.kind = 3 ∧ h.req = (i : Int) then h.amt else 0) ∧
    s'.dy.getD i 0 = if h.kind = 2 ∧ h.sup = (i : Int) then max (s.dy.getD i 0) h.day else s.dy.getD i 0 := by
  cases hs with
  | lose t k e1 e2 e3 e4 =>
    refine ⟨?_, ?_, ?_⟩
    · show (s.am.set t _).getD i 0 = _
      rw [getD_set _ _ _ _ e2, if_neg (show ¬ (h.kind = 3 ∧ h.sup = (i : Int)) by omega)]
      by_cases c : i = t
      · subst c; rw [if_pos rfl, if_pos ⟨k, e1⟩]; omega
      · rw [if_neg c, if_neg (by omega)]; omega
    · rw [if_neg (by omega)]; show s.nd.getD i 0 = _; omega
    · rw [if_neg (by omega)]; rfl
  | late t k e1 e2 e3 e4 =>
    refine ⟨?_, ?_, ?_⟩
    · rw [if_neg (by omega), if_neg (by omega)]; show s.am.getD i 0 = _; omega
    · rw [if_neg (by omega)]; show s.nd.getD i 0 = _; omega
    · show (s.dy.set t _).getD i 0 = _
      rw [getD_set _ _ _ _ (by omega)]
      by_cases c : i = t
      · subst c; rw [if_pos rfl, if_pos ⟨k, e1⟩]; omega
      · rw [if_neg c, if_neg (by omega)]
  | ship t j k e1 f1 e2 e3 e4 e5 e6 e7 e8 e9 e10 e11 =>
    refine ⟨?_, ?_, ?_⟩
    · show (s.am.set t _).getD i 0 = _
      rw [getD_set _ _ _ _ e2, if_neg (show ¬ (h.kind = 1 ∧ h.sup = (i : Int)) by omega)]
      by_cases c : i = t
      · subst c; rw [if_pos rfl, if_pos ⟨k, e1⟩]; omega
      · rw [if_neg c, if_neg (by omega)]; omega
    · show (s.nd.set j _).getD i 0 = _
      rw [getD_set _ _ _ _ e3]
      by_cases c : i = j
      · subst c; rw [if_pos rfl, if_pos ⟨k, f1⟩]
      · rw [if_neg c, if_neg (by omega)]; omega
    · rw [if_neg (by omega)]
/-- what many happenings come to -/
theorem steps_eff {x : Fx} : ∀ {l : List Hp} {s s' : St} {at_ : Nat}, stepsF x s at_ l = some s' → s.dy.length = s.am.length → (∀ i, s'.am.getD i 0 = s.am.getD i 0 - shipA l i - lossA l i ∧ s'.nd.getD i 0 = s.nd.getD i 0 - shipN l i ∧ s'.dy.getD i 0 = lateD i (s.dy.getD i 0) l) ∧
    (s'.am.length = s.am.length ∧ s'.nd.length = s.nd.length ∧ s'.dy.length = s.dy.length ∧ s'.br.length = s.br.length) ∧ ∀ h ∈ l, OkH s.am.length s.nd.length h
  | [], s, s', at_, h, hd => by
    cases h
    refine ⟨fun i => ⟨?_, ?_, rfl⟩, ⟨rfl, rfl, rfl, rfl⟩, fun h hh => by cases hh⟩
    · simp [shipA, lossA]
    · simp [shipN]
  | y :: l, s, s', at_, h, hd => by
    rw [stepsF] at h
    cases hs : stepF x s y at_ with
    | none => rw [hs] at h; cases h
    | some t =>
      rw [hs] at h
      have st := stepF_some.1 hs
      have ln := st.len
      obtain ⟨ih, il, ik⟩ := steps_eff (l := l) (s := t) h (by omega)
      refine ⟨fun i => ?_, by omega, fun z hz => ?_⟩
      · obtain ⟨a1, a2, a3⟩ := ih i
        obtain ⟨b1, b2, b3⟩ := st.eff hd i
        rw [shipA_cons, lossA_cons, shipN_cons, lateD]
        rw [b3] at a3
        exact ⟨by omega, by omega, a3⟩
      · rcases List.mem_cons.1 hz with rfl | hz
        · exact st.okH
        · have := ik z hz
          rwa [ln.1, ln.2.1] at this
theorem stepsF_append {x : Fx} : ∀ (l1 l2 : List Hp) (s : St) (at_ : Nat), stepsF x s at_ (l1 ++ l2) = (stepsF x s at_ l1).bind fun s' => stepsF x s' (at_ + l1.length) l2
  | [], l2, s, at_ => rfl
  | y :: l1, l2, s, at_ => by
    rw [List.cons_append, stepsF, stepsF]
    cases hs : stepF x s y at_ with
    | none => rfl
    | some t =>
      show stepsF x t (at_ + 1) (l1 ++ l2) = _
      rw [stepsF_append l1 l2 t (at_ + 1), List.length_cons, show at_ + 1 + l1.length = at_ + (l1.length + 1) by omega]
      rfl
/-- what broke what -/
theorem Stp.brk {x : Fx} {s s' : St} {h : Hp} {at_ : Nat} (hs : Stp x s h at_ s') (hl : s.br.length = s.nd.length) (q : Nat) : s'.br.getD q 0 = s.br.getD q 0 ∨ (s.br.getD q 0 < 0 ∧ s'.br.getD q 0 = (at_ : Int) ∧ h.kind ≠ 3) := by
  have mk : ∀ (t : St), t.br = s.br → t.nd.length = s.nd.length → (markF x t at_).br.getD q 0 = s.br.getD q 0 ∨ (s.br.getD q 0 < 0 ∧ (markF x t at_).br.getD q 0 = (at_ : Int)) := fun t e1 e2 => by
    by_cases hq : q < t.br.length
    · rw [markF_br hq, e1]
      by_cases hm : q ∈ failF x t t.nd.length
      · rw [if_pos hm]
        have := (mem_failL.1 hm).2.1
        have := (askF_lt this).2
        rw [e1] at this
        exact .inr ⟨this, rfl⟩
      · rw [if_neg hm]; exact .inl rfl
    · left
      rw [List.getD_eq_getElem?_getD, List.getD_eq_getElem?_getD, List.getElem?_eq_none (by rw [markF_brl]; omega), List.getElem?_eq_none (by rw [← e1]; omega)]
  cases hs with
  | lose i k =>
    rcases mk { s with am := s.am.set i (s.am.getD i 0 - h.amt) } rfl rfl with h | h
    · exact .inl h
    · exact .inr ⟨h.1, h.2, by omega⟩
  | late i k =>
    rcases mk { s with dy := s.dy.set i h.day } rfl rfl with h | h
    · exact .inl h
    · exact .inr ⟨h.1, h.2, by omega⟩
  | ship i j k => exact .inl rfl
theorem steps_brk {x : Fx} : ∀ {l : List Hp} {s s' : St} {at_ : Nat}, stepsF x s at_ l = some s' → s.br.length = s.nd.length → ∀ q, s'.br.getD q 0 = s.br.getD q 0 ∨ (s.br.getD q 0 < 0 ∧ ∃ t, t < l.length ∧ s'.br.getD q 0 = ((at_ + t : Nat) : Int) ∧ (l.getD t zH).kind ≠ 3)
  | [], s, s', at_, h, hl, q => by
    cases h
    exact .inl rfl
  | y :: l, s, s', at_, h, hl, q => by
    rw [stepsF] at h
    cases hs : stepF x s y at_ with
    | none => rw [hs] at h; cases h
    | some t =>
      rw [hs] at h
      have st := stepF_some.1 hs
      have ln := st.len
      have ih := steps_brk (l := l) (s := t) h (by omega) q
      rcases st.brk hl q with e | ⟨e1, e2, e3⟩
      · rcases ih with i1 | ⟨i1, k, i2, i3, i4⟩
        · exact .inl (i1.trans e)
        · rw [e] at i1
          exact .inr ⟨i1, k + 1, by rw [List.length_cons]; omega, by rw [i3]; omega, i4⟩
      · rcases ih with i1 | ⟨i1, -⟩
        · exact .inr ⟨e1, 0, by rw [List.length_cons]; omega, by rw [i1, e2]; omega, e3⟩
        · rw [e2] at i1; omega
end Go.Proofs.Ytgnipfjjkliibaa

/-
  Honour: the reasons. Plain.
  Conditions: none.
-/
namespace Go.Proofs.Ytgnipfjjkliibaa
open Go Bf
def shipF (s : St) (h : Hp) : St := if h.kind = 3 then { s with am := s.am.set h.sup.toNat (s.am.getD h.sup.toNat 0 - h.amt), nd := s.nd.set h.req.toNat (s.nd.getD h.req.toNat 0 - h.amt) } else s
def lossF (s : St) (h : Hp) : St := if h.kind = 1 then { s with am := s.am.set h.sup.toNat (s.am.getD h.sup.toNat 0 - h.amt) } else { s with dy := s.dy.set h.sup.toNat (max (s.dy.getD h.sup.toNat 0) h.day) }
def brB (br : List Int) (j : Nat) : List Int := br.map fun a => if 0 ≤ a ∧ a < (j : Int) then a else -1
/-- the state before the happening j, if of the others than ships only some had happened -/
def withF (b : Bk) (l : List Hp) (br : List Int) (j : Nat) (idx : List Nat) : St :=
  { (idx.map fun t => l.getD t zH).foldl lossF ((l.take j).foldl shipF (beginF b)) with br := brB br j }
noncomputable def becL (b : Bk) (l : List Hp) (br : List Int) (j q : Nat) : Nat → List Nat → List Nat
  | 0, left => left
  | i + 1, left => becL b l br j q i (if q ∈ failF (fxB b) (withF b l br j (left.eraseIdx i)) (q + 1) then left.eraseIdx i else left)
def notShip (l : List Hp) (n : Nat) : List Nat := (List.range n).filter fun t => decide ((l.getD t zH).kind ≠ 3)
noncomputable def becF (b : Bk) (l : List Hp) (br : List Int) (q : Nat) : List Nat :=
  becL b l br (br.getD q 0).toNat q (notShip l ((br.getD q 0).toNat + 1)).length (notShip l ((br.getD q 0).toNat + 1))
theorem ships_eff : ∀ (l : List Hp) (s : St), (∀ h ∈ l, OkH s.am.length s.nd.length h) → (∀ i, (l.foldl shipF s).am.getD i 0 = s.am.getD i 0 - shipA l i ∧ (l.foldl shipF s).nd.getD i 0 = s.nd.getD i 0 - shipN l i) ∧ (l.foldl shipF s).dy = s.dy ∧ (l.foldl shipF s).am.length = s.am.length ∧ (l.foldl shipF s).nd.length = s.nd.length
  | [], s, _ => ⟨fun i => by simp [shipA, shipN], rfl, rfl, rfl⟩
  | h :: l, s, hl => by
    have hh := hl h (List.mem_cons_self ..)
    have e1 : (shipF s h).am.length = s.am.length ∧ (shipF s h).nd.length = s.nd.length ∧ (shipF s h).dy = s.dy := by
      unfold shipF; split
      · exact ⟨List.length_set, List.length_set, rfl⟩
      · exact ⟨rfl, rfl, rfl⟩
    obtain ⟨i1, i2, i3, i4⟩ := ships_eff l (shipF s h) (fun z hz => by rw [e1.1, e1.2.1]; exact hl z (List.mem_cons_of_mem _ hz))
    rw [List.foldl_cons]
    refine ⟨fun i => ?_, by rw [i2, e1.2.2], by rw [i3, e1.1], by rw [i4, e1.2.1]⟩
    obtain ⟨a1, a2⟩ := i1 i
    rw [a1, a2, shipA_cons, shipN_cons]
    unfold shipF
    by_cases k : h.kind = 3
    · rw [if_pos k]
      obtain ⟨⟨o1, o2⟩, o3⟩ := hh
      have o4 : 0 ≤ h.req ∧ h.req < (s.nd.length : Int) := by rcases o3 with o | o | o <;> omega
      refine ⟨?_, ?_⟩
      · show (s.am.set _ _).getD i 0 - _ = _
        rw [getD_set _ _ _ _ (by omega)]
        by_cases c : i = h.sup.toNat
        · rw [if_pos c, if_pos ⟨k, by omega⟩, c]; omega
        · rw [if_neg c, if_neg (by omega)]; omega
      · show (s.nd.set _ _).getD i 0 - _ = _
        rw [getD_set _ _ _ _ (by omega)]
        by_cases c : i = h.req.toNat
        · rw [if_pos c, if_pos ⟨k, by omega⟩, c]; omega
        · rw [if_neg c, if_neg (by omega)]; omega
    · rw [if_neg k, if_neg (fun h => k h.1), if_neg (fun h => k h.1)]
      exact ⟨by omega, by omega⟩
theorem losses_eff : ∀ (l : List Hp) (s : St), s.dy.length = s.am.length → (∀ h ∈ l, OkH s.am.length s.nd.length h ∧ h.kind ≠ 3) → (∀ i, (l.foldl lossF s).am.getD i 0 = s.am.getD i 0 - lossA l i ∧ (l.foldl lossF s).dy.getD i 0 = lateD i (s.dy.getD i 0) l) ∧ (l.foldl lossF s).nd = s.nd ∧ (l.foldl lossF s).am.length = s.am.length ∧ (l.foldl lossF s).dy.length = s.dy.length
  | [], s, _, _ => ⟨fun i => ⟨by simp [lossA], rfl⟩, rfl, rfl, rfl⟩
  | h :: l, s, hd, hl => by
    obtain ⟨hh, h3⟩ := hl h (List.mem_cons_self ..)
    have e1 : (lossF s h).am.length = s.am.length ∧ (lossF s h).nd = s.nd ∧ (lossF s h).dy.length = s.dy.length := by
      unfold lossF; split
      · exact ⟨List.length_set, rfl, rfl⟩
      · exact ⟨rfl, rfl, List.length_set⟩
    obtain ⟨i1, i2, i3, i4⟩ := losses_eff l (lossF s h) (by omega) (fun z hz => by rw [e1.1, e1.2.1]; exact hl z (List.mem_cons_of_mem _ hz))
    rw [List.foldl_cons]
    refine ⟨fun i => ?_, by rw [i2, e1.2.1], by rw [i3, e1.1], by rw [i4, e1.2.2]⟩
    obtain ⟨a1, a2⟩ := i1 i
    rw [a1, a2, lossA_cons, lateD]
    unfold lossF
    obtain ⟨⟨o1, o2⟩, o3⟩ := hh
    by_cases k : h.kind = 1
    · rw [if_pos k]
      refine ⟨?_, ?_⟩
      · show (s.am.set _ _).getD i 0 - _ = _
        rw [getD_set _ _ _ _ (by omega)]
        by_cases c : i = h.sup.toNat
        · rw [if_pos c, if_pos ⟨k, by omega⟩, c]; omega
        · rw [if_neg c, if_neg (by omega)]; omega
      · rw [if_neg (show ¬ (h.kind = 2 ∧ h.sup = (i : Int)) by omega)]
    · have k2 : h.kind = 2 := by rcases o3 with o | o | o <;> omega
      rw [if_neg k]
      refine ⟨?_, ?_⟩
      · rw [if_neg (show ¬ (h.kind = 1 ∧ h.sup = (i : Int)) by omega)]
        show s.am.getD i 0 - _ = _
        omega
      · show lateD i ((s.dy.set _ _).getD i 0) l = _
        rw [getD_set _ _ _ _ (by omega)]
        by_cases c : i = h.sup.toNat
        · rw [if_pos c, if_pos ⟨k2, by omega⟩, c]
        · rw [if_neg c, if_neg (by omega)]
/-! parts of a list of happenings -/
theorem lossA_sub {n m : Nat} {l1 l2 : List Hp} (h : l1.Sublist l2) (hl : ∀ z ∈ l2, OkH n m z) (i : Nat) : lossA l1 i ≤ lossA l2 i ∧ 0 ≤ lossA l2 i := by
  induction h with
  | slnil => exact ⟨Int.le_refl _, Int.le_refl _⟩
  | @cons l1 l2 a h ih =>
    have := ih fun z hz => hl z (List.mem_cons_of_mem _ hz)
    obtain ⟨-, o⟩ := hl a (List.mem_cons_self ..)
    rw [lossA_cons]
    by_cases c : a.kind = 1 ∧ a.sup = (i : Int)
    · rw [if_pos c]
      rcases o with o | o | o <;> omega
    · rw [if_neg c]; omega
  | @cons_cons l1 l2 a h ih =>
    have := ih fun z hz => hl z (List.mem_cons_of_mem _ hz)
    obtain ⟨-, o⟩ := hl a (List.mem_cons_self ..)
    rw [lossA_cons, lossA_cons]
    by_cases c : a.kind = 1 ∧ a.sup = (i : Int)
    · rw [if_pos c]
      rcases o with o | o | o <;> omega
    · rw [if_neg c]; omega
theorem lateD_mono (i : Nat) : ∀ (l : List Hp) (d e : Int), d ≤ e → lateD i d l ≤ lateD i e l
  | [], _, _, h => h
  | a :: l, d, e, h => by
    rw [lateD, lateD]
    refine lateD_mono i l _ _ ?_
    split <;> omega
theorem lateD_ge (i : Nat) : ∀ (l : List Hp) (d : Int), d ≤ lateD i d l
  | [], d => Int.le_refl _
  | a :: l, d => by
    rw [lateD]
    refine Int.le_trans ?_ (lateD_ge i l _)
    split <;> omega
theorem lateD_sub (i : Nat) {l1 l2 : List Hp} (h : l1.Sublist l2) : ∀ d, lateD i d l1 ≤ lateD i d l2 := by
  induction h with
  | slnil => exact fun d => Int.le_refl _
  | @cons l1 l2 a h ih =>
    intro d
    rw [lateD]
    refine Int.le_trans (ih d) (lateD_mono i _ _ _ ?_)
    split <;> omega
  | @cons_cons l1 l2 a h ih =>
    intro d
    rw [lateD, lateD]
    exact ih _
theorem shipA_take_le {n m : Nat} {l : List Hp} (hl : ∀ z ∈ l, OkH n m z) (i : Nat) : 0 ≤ shipA l i := by
  induction l with
  | nil => exact Int.le_refl _
  | cons a l ih =>
    have := ih fun z hz => hl z (List.mem_cons_of_mem _ hz)
    obtain ⟨-, o⟩ := hl a (List.mem_cons_self ..)
    rw [shipA_cons]
    by_cases c : a.kind = 3 ∧ a.sup = (i : Int)
    · rw [if_pos c]; rcases o with o | o | o <;> omega
    · rw [if_neg c]; omega
theorem pick_sub {l : List Hp} : ∀ {idx : List Nat} {n : Nat}, idx.Sublist (List.range n) → n ≤ l.length → (idx.map fun t => l.getD t zH).Sublist (l.take n) := fun {idx n} h hn => by
  have h1 := h.map fun t => l.getD t zH
  have h2 : (List.range n).map (fun t => l.getD t zH) = l.take n := by
    apply List.ext_getElem?
    intro i
    rw [List.getElem?_map]
    by_cases hi : i < n
    · rw [List.getElem?_range hi, List.getElem?_take, if_pos hi]
      simp [List.getD_eq_getElem?_getD, show i < l.length by omega]
    · rw [List.getElem?_eq_none (by simp; omega), List.getElem?_eq_none (by simp; omega)]
      rfl
  rwa [h2] at h1
end Go.Proofs.Ytgnipfjjkliibaa

/-
  Honour: the happening that broke a request is among its reasons. Plain.
  Conditions: none.
-/
namespace Go.Proofs.Ytgnipfjjkliibaa
open Go Bf
theorem run_prefix {b : Bk} {l : List Hp} {s : St} (h : runF b l = some s) (k : Nat) (hk : k ≤ l.length) : ∃ t, runF b (l.take k) = some t ∧ stepsF (fxB b) t k (l.drop k) = some s := by
  unfold runF at h ⊢
  split at h
  · rename_i hv
    rw [if_pos hv]
    have e := stepsF_append (x := fxB b) (l.take k) (l.drop k) (beginF b) 0
    rw [List.take_append_drop, h] at e
    cases ht : stepsF (fxB b) (beginF b) 0 (l.take k) with
    | none => rw [ht] at e; cases e
    | some t =>
      rw [ht] at e
      refine ⟨t, rfl, ?_⟩
      have e2 : some s = stepsF (fxB b) t (0 + (l.take k).length) (l.drop k) := e
      rw [List.length_take, Nat.min_eq_left hk, Nat.zero_add] at e2
      exact e2.symm
  · cases h
theorem run_steps {b : Bk} {l : List Hp} {s : St} (h : runF b l = some s) : validB b ∧ stepsF (fxB b) (beginF b) 0 l = some s := by
  unfold runF at h
  split at h
  · rename_i hv
    exact ⟨hv, h⟩
  · cases h
theorem begin_br (b : Bk) (q : Nat) (hq : q < b.reqs.length) : (beginF b).br.getD q 0 = -1 := by
  simp [beginF, List.getD_eq_getElem?_getD, hq]
theorem begin_len (b : Bk) : (beginF b).am.length = b.sups.length ∧ (beginF b).nd.length = b.reqs.length ∧ (beginF b).dy.length = b.sups.length ∧ (beginF b).br.length = b.reqs.length := by
  simp [beginF]
theorem run_len {b : Bk} {l : List Hp} {s : St} (h : runF b l = some s) : s.am.length = b.sups.length ∧ s.nd.length = b.reqs.length ∧ s.dy.length = b.sups.length ∧ s.br.length = b.reqs.length := by
  have h1 := begin_len b
  have h2 := (steps_eff (run_steps h).2 (by omega)).2.1
  omega
theorem run_ok {b : Bk} {l : List Hp} {s : St} (h : runF b l = some s) : ∀ z ∈ l, OkH b.sups.length b.reqs.length z := by
  have h1 := begin_len b
  have h2 := (steps_eff (run_steps h).2 (by omega)).2.2
  rwa [h1.1, h1.2.1] at h2
theorem run_brk {b : Bk} {l : List Hp} {s : St} (h : runF b l = some s) {q : Nat} (hq : q < b.reqs.length) : s.br.getD q 0 = -1 ∨ ∃ t, t < l.length ∧ s.br.getD q 0 = (t : Int) ∧ (l.getD t zH).kind ≠ 3 := by
  have h1 := begin_len b
  rcases steps_brk (run_steps h).2 (by omega) q with e | ⟨-, t, e1, e2, e3⟩
  · rw [begin_br b q hq] at e; exact .inl e
  · rw [Nat.zero_add] at e2; exact .inr ⟨t, e1, e2, e3⟩
theorem notShip_mem {l : List Hp} {n t : Nat} : t ∈ notShip l n ↔ t < n ∧ (l.getD t zH).kind ≠ 3 := by
  simp [notShip, List.mem_filter]
theorem notShip_sub (l : List Hp) (n : Nat) : (notShip l n).Sublist (List.range n) := List.filter_sublist
theorem sub_le {idx : List Nat} {n m : Nat} (h : idx.Sublist (List.range n)) (hnm : n ≤ m) : idx.Sublist (List.range m) := by
  obtain ⟨k, rfl⟩ := Nat.exists_eq_add_of_le hnm
  rw [List.range_add]
  exact h.trans (List.sublist_append_left _ _)
theorem brB_length (br : List Int) (j : Nat) : (brB br j).length = br.length := by simp [brB]
/-- the state without some of the happenings, number by number -/
theorem with_eff {b : Bk} {l : List Hp} (hok : ∀ z ∈ l, OkH b.sups.length b.reqs.length z) (br : List Int) {j : Nat} (hj : j ≤ l.length) {idx : List Nat} (h3 : ∀ t ∈ idx, t < l.length ∧ (l.getD t zH).kind ≠ 3) :
    (∀ i, (withF b l br j idx).am.getD i 0 = (beginF b).am.getD i 0 - shipA (l.take j) i - lossA (idx.map fun t => l.getD t zH) i ∧ (withF b l br j idx).nd.getD i 0 = (beginF b).nd.getD i 0 - shipN (l.take j) i ∧ (withF b l br j idx).dy.getD i 0 = lateD i ((beginF b).dy.getD i 0) (idx.map fun t => l.getD t zH)) ∧
    (withF b l br j idx).am.length = b.sups.length ∧ (withF b l br j idx).nd.length = b.reqs.length ∧ (withF b l br j idx).dy.length = b.sups.length ∧ (withF b l br j idx).br = brB br j := by
  have hb := begin_len b
  obtain ⟨a1, a2, a3, a4⟩ := ships_eff (l.take j) (beginF b) (fun z hz => by rw [hb.1, hb.2.1]; exact hok z (List.mem_of_mem_take hz))
  generalize hs1 : (l.take j).foldl shipF (beginF b) = s1 at a1 a2 a3 a4
  have hmem : ∀ z ∈ idx.map fun t => l.getD t zH, OkH s1.am.length s1.nd.length z ∧ z.kind ≠ 3 := fun z hz => by
    obtain ⟨t, ht, rfl⟩ := List.mem_map.1 hz
    have := h3 t ht
    refine ⟨?_, this.2⟩
    rw [a3, a4, hb.1, hb.2.1]
    refine hok _ ?_
    rw [List.getD_eq_getElem?_getD, List.getElem?_eq_getElem this.1]
    exact List.getElem_mem _
  obtain ⟨b1, b2, b3, b4⟩ := losses_eff (idx.map fun t => l.getD t zH) s1 (by rw [a2]; omega) hmem
  have hw : withF b l br j idx = { (idx.map fun t => l.getD t zH).foldl lossF s1 with br := brB br j } := by rw [withF, hs1]
  rw [hw]
  refine ⟨fun i => ⟨?_, ?_, ?_⟩, ?_, ?_, ?_, rfl⟩
  · show (List.foldl lossF s1 _).am.getD i 0 = _
    rw [(b1 i).1, (a1 i).1]
  · show (List.foldl lossF s1 _).nd.getD i 0 = _
    rw [b2, (a1 i).2]
  · show (List.foldl lossF s1 _).dy.getD i 0 = _
    rw [(b1 i).2, a2]
  · show (List.foldl lossF s1 _).am.length = _
    rw [b3, a3]; exact hb.1
  · show (List.foldl lossF s1 _).nd.length = _
    rw [b2, a4]; exact hb.2.1
  · show (List.foldl lossF s1 _).dy.length = _
    rw [b4, a2]; exact hb.2.2.1
theorem all_getD {l : List Int} {R : Int → Prop} (h : ∀ i, i < l.length → R (l.getD i 0)) : ∀ a ∈ l, R a := fun a ha => by
  obtain ⟨i, hi, rfl⟩ := List.getElem_of_mem ha
  have := h i hi
  rwa [List.getD_eq_getElem?_getD, List.getElem?_eq_getElem hi] at this
theorem getD_all {l : List Int} {R : Int → Prop} (h : ∀ a ∈ l, R a) {i : Nat} (hi : i < l.length) : R (l.getD i 0) := by
  rw [List.getD_eq_getElem?_getD, List.getElem?_eq_getElem hi]
  exact h _ (List.getElem_mem hi)
theorem shipA_append (l1 l2 : List Hp) (i : Nat) : shipA (l1 ++ l2) i = shipA l1 i + shipA l2 i := by simp [shipA]
theorem with_fit {b : Bk} {l : List Hp} {s : St} (h : runF b l = some s) {j : Nat} (hj : j < l.length) {idx : List Nat} (hi : idx.Sublist (List.range (j + 1))) (h3 : ∀ t ∈ idx, (l.getD t zH).kind ≠ 3) : Fit (fxB b) (withF b l s.br j idx) := by
  have hok := run_ok h
  obtain ⟨t, ht, hts⟩ := run_prefix h (j + 1) (by omega)
  obtain ⟨hfb, hf, -⟩ := run_keep ht
  have hb0 := begin_fit hfb
  have hb := begin_len b
  have hlt := run_len ht
  have hls := run_len h
  have hmem : ∀ t ∈ idx, t < l.length ∧ (l.getD t zH).kind ≠ 3 := fun t ht => ⟨by have := List.mem_range.1 (hi.subset ht); omega, h3 t ht⟩
  obtain ⟨e1, e2, e3, e4, e5⟩ := with_eff hok s.br (Nat.le_of_lt hj) hmem
  have hsub := pick_sub (l := l) hi (by omega)
  have hokt : ∀ z ∈ l.take (j + 1), OkH b.sups.length b.reqs.length z := fun z hz => hok z (List.mem_of_mem_take hz)
  obtain ⟨t1, -⟩ := steps_eff (run_steps ht).2 (by omega)
  have htake : l.take (j + 1) = l.take j ++ [l[j]] := by rw [List.take_add_one, List.getElem?_eq_getElem hj]; rfl
  have hs0 := fun i => shipA_take_le (n := b.sups.length) (m := b.reqs.length) (l := [l[j]]) (fun z hz => hok z (by simp at hz; subst hz; exact List.getElem_mem hj)) i
  have hs1 := fun i => shipA_take_le (n := b.sups.length) (m := b.reqs.length) (l := l.take j) (fun z hz => hok z (List.mem_of_mem_take hz)) i
  have hl0 : ∀ i, 0 ≤ lossA (idx.map fun t => l.getD t zH) i := fun i => (lossA_sub (List.Sublist.refl _) (fun z hz => hokt z (hsub.subset hz)) i).2
  obtain ⟨u, hu, -⟩ := run_prefix h j (by omega)
  obtain ⟨-, hfu, -⟩ := run_keep hu
  obtain ⟨u1, -⟩ := steps_eff (run_steps hu).2 (by omega)
  have hlu := run_len hu
  refine ⟨by rw [e2]; exact hfb.1, by rw [e3]; exact hfb.2.1, by rw [e4, e2], by rw [e5, brB_length, e3]; exact hls.2.2.2, by rw [e3]; simp [fxB], by rw [e2]; exact hfb.2.2.2.2.1, by rw [e3]; exact hfb.2.2.2.2.2, all_getD fun i hi2 => ?_, all_getD fun i hi2 => ?_, all_getD fun i hi2 => ?_, hb0.dur⟩
  · rw [e2] at hi2
    have q1 := getD_all hf.amr (i := i) (by omega)
    have q2 := getD_all hb0.amr (i := i) (by omega)
    have q3 := (t1 i).1
    rw [htake, shipA_append] at q3
    have q4 := (lossA_sub hsub hokt i).1
    rw [htake] at q4
    have := hs0 i
    have := hs1 i
    have := hl0 i
    rw [(e1 i).1]
    omega
  · rw [e3] at hi2
    have q1 := getD_all hfu.ndr (i := i) (by omega)
    rw [(e1 i).2.1, ← (u1 i).2.1]
    exact q1
  · rw [e4] at hi2
    have q1 := getD_all hf.dyr (i := i) (by omega)
    have q2 := getD_all hb0.dyr (i := i) (by omega)
    have q3 := (t1 i).2.2
    have q4 := lateD_sub i hsub ((beginF b).dy.getD i 0)
    have q5 := lateD_ge i (idx.map fun t => l.getD t zH) ((beginF b).dy.getD i 0)
    rw [(e1 i).2.2]
    omega
end Go.Proofs.Ytgnipfjjkliibaa

/-
  Honour: kinds, run.
  Conditions: none.
-/
namespace Go.Proofs.Ytgnipfjjkliibaa
open Go Bf
attribute [local irreducible] Tr Exec Stab HasTy Go.Addr.add IntKind.wrap
def fnV (k : Nat) : Value := .func (.func k) #[] #[]
/-- what the map of kinds holds -/
def KindsOk (es : List MapEntry) : Prop := IntKeys es ∧ valE 1 es = some (fnV 74) ∧ valE 2 es = some (fnV 75) ∧ valE 3 es = some (fnV 76) ∧ ∀ k, k ≠ 1 → k ≠ 2 → k ≠ 3 → valE k es = none
set_option maxHeartbeats 4000000 in
theorem kinds_own (M : Mem) : Bf.Fn Try.prog 51 [] M [] (fun r M' A' => M = M' ∧ ∃ b es cl, r = .map (some b) ∧ A' = [mapR b es cl] ∧ KindsOk es) := by
  refine Fn.intro Try.func51 rfl rfl Try.ntmps51 rfl fun E F => ?_
  have k0 : IntKeys [] := IntKeys.nil
  have k1 : IntKeys (updE 1 (fnV 74) [] 0).1 := updE_keys k0
  have k2 : IntKeys (updE 2 (fnV 75) (updE 1 (fnV 74) [] 0).1 (updE 1 (fnV 74) [] 0).2).1 := updE_keys k1
  (repeat (first | ((with_reducible refine Tr.step rfl ?_); (first | (refine xmQ (z := ?_)) | (refine xaQ (z := ?_)) | ((with_reducible refine Knd.makeMap ?_); (refine Exec.makeMap rfl (fun b => ?_))) | ((with_reducible refine Knd.insert ?_); ((refine Exec.mapInsert rfl rfl rfl (tysOk.get rfl) rfl (tysOk.get rfl) rfl ?_ (by repeat (first | exact Upd.here | apply Upd.there)) ?_); (first | exact IntKeys.nil | assumption))))) | (with_reducible first | apply Tr.next | apply Tr.seq | apply Tr.region | apply Tr.nil | apply Tr.ret)))
  refine Tr.doneA (A' := [_]) (by first | exact .inl rfl | exact .inr rfl) rfl (by repeat (first | exact RVs.nil | (apply RVs.cons; (exact RV.tmp rfl)))) (Mem.le.refl _) ⟨fun r hr => hr, fun h => h⟩ ⟨rfl, _, _, _, rfl, rfl, ?_⟩
  refine ⟨updE_keys k2, ?_, ?_, ?_, fun k h1 h2 h3 => ?_⟩
  · rw [updE_val, updE_val, updE_val]; rfl
  · rw [updE_val, updE_val]; rfl
  · rw [updE_val]; rfl
  · rw [updE_val, updE_val, updE_val, if_neg h3, if_neg h2, if_neg h1]; rfl
def RHp (_ : Mem) (c : List Value) (y : Hp) : Prop := c = [.int .i64 y.kind, .int .i64 y.sup, .int .i64 y.req, .int .i64 y.day, .int .i64 y.amt]
theorem RHp.mono (M M' : Mem) (c : List Value) (y : Hp) (_ : Mem.le M M') (h : RHp M c y) : RHp M' c y := h
theorem steps_next {x : Fx} {s0 s s' : St} {l : List Hp} {i : Nat} {h : Hp} (hs : stepsF x s0 0 (l.take i) = some s) (hh : l[i]? = some h) (hn : stepF x s h i = some s') : stepsF x s0 0 (l.take (i + 1)) = some s' := by
  have hi := (List.getElem?_eq_some_iff.1 hh).1
  rw [List.take_add_one, hh, stepsF_append, hs]
  show stepsF x s (0 + (l.take i).length) [h] = _
  rw [List.length_take, Nat.min_eq_left (by omega), Nat.zero_add, stepsF, hn]
  rfl
theorem steps_stop {x : Fx} {s0 s : St} {l : List Hp} {i : Nat} {h : Hp} (hs : stepsF x s0 0 (l.take i) = some s) (hh : l[i]? = some h) (hn : stepF x s h i = none) : stepsF x s0 0 l = none := by
  have hi := (List.getElem?_eq_some_iff.1 hh).1
  have e : l = l.take i ++ (h :: l.drop (i + 1)) := by
    rw [show h :: l.drop (i + 1) = l.drop i by rw [List.drop_eq_getElem_cons hi]; congr 1; exact ((List.getElem?_eq_some_iff.1 hh).2).symm, List.take_append_drop]
  rw [e, stepsF_append, hs]
  show stepsF x s (0 + (l.take i).length) (h :: _) = _
  rw [List.length_take, Nat.min_eq_left (by omega), Nat.zero_add, stepsF, hn]
  rfl
theorem run_yes {k : Bk} {l : List Hp} (hv : validB k) : runF k l = stepsF (fxB k) (beginF k) 0 l := by unfold runF; rw [if_pos hv]
theorem run_no {k : Bk} {l : List Hp} (hv : ¬ validB k) : runF k l = none := by unfold runF; rw [if_neg hv]
theorem step_other {x : Fx} {s : St} {h : Hp} {i : Nat} (h1 : h.kind ≠ 1) (h2 : h.kind ≠ 2) (h3 : h.kind ≠ 3) : stepF x s h i = none := by
  unfold stepF; rw [if_neg h1, if_neg h2, if_neg h3]
set_option maxHeartbeats 16000000 in
theorem run_fn (M : Mem) (v : Value) (k : Bk) (h : RBk M v k) (A : Option Addr) (c : Nat) (l : List Hp) (hl : SlOf 5 RHp M (.slice A l.length c) l) :
    FnP Try.prog 27 [v, .slice A l.length c] M [] (fun r M' A' => A' = [] ∧ ∃ s, runF k l = some s ∧ RSt M' r (fxB k) s) (fun ch _ A' => ch = refCh ∧ A' = [] ∧ runF k l = none) := by
  have hB := h
  obtain ⟨As, cs, Ar, cr, Af, cf, Ad, cd, rfl, h1, h2, h3⟩ := h
  have hlS := h1.len_le
  have hlR := h2.len_le
  have hll := hl.len_le
  have hcb := checkBook_fn M _ k hB
  have hrun := run_yes (k := k) (l := l)
  have hrun0 := run_no (k := k) (l := l)
  refine FnP.intro Try.func27 rfl rfl Try.ntmps27 rfl fun E F => ?_
  (repeat (first | ((with_reducible refine Tr.step rfl ?_); (first | (refine xwQ (z := ?_)) | ((with_reducible refine Knd.box ?_); (refine Exec.box rfl rfl (fun b => ?_))) | ((with_reducible refine Knd.alloc ?_); (refine Exec.alloc (tysOk.get rfl) rfl rfl (fun b => ?_))))) | (with_reducible first | apply Tr.next | apply Tr.seq | apply Tr.region | apply Tr.nil)))
  generalize b = b4
  rename_i b2
  ((refine Tr.step rfl ?_))
  refine Exec.callP rfl hcb (List.Perm.refl _) rfl (fun v M0 A' hm0 hR => ?_) (fun ch M' A' hm hR => ?_)
  rotate_left
  · obtain ⟨rfl, rfl, hv⟩ := hR
    (repeat ((with_reducible refine Tr.then_panic ?_)))
    exact Tr.doneP (A' := []) hm (by repeat (first | exact DropL.refl | apply DropL.skip)) ⟨rfl, rfl, hrun0 hv⟩
  obtain ⟨rfl, hv⟩ := hR
  rw [hrun hv]
  have hfit := begin_fit hv.1
  have hl64 := hv.1.1
  have hr64 := hv.1.2.1
  (repeat (first | ((with_reducible refine Tr.step rfl ?_); (with_reducible refine Knd.load ?_); (refine xwQ (z := ?_))) | (with_reducible first | apply Tr.next | apply Tr.seq | apply Tr.region | apply Tr.nil)))
  ((refine Tr.step rfl ?_))
  refine Exec.call0 rfl (hbegin_fn M0 _ k (hB.mono hm0) (by omega) (by omega)) rfl ?_
  rintro r1 M1 hm1 ⟨Bf, kf, Ba, ka, Bd, kd, Bn, kn, Bu, ku, Bb, kb, rfl, q1, q2, q3, q4, q5, q6⟩
  (repeat (first | ((with_reducible refine Tr.step rfl ?_); (first | (refine xWQ (z := ?_)) | ((with_reducible refine Knd.alloc ?_); (refine Exec.alloc (tysOk.get rfl) rfl rfl (fun b => ?_))))) | (with_reducible first | apply Tr.next | apply Tr.seq | apply Tr.region | apply Tr.nil)))
  generalize b = b5
  ((refine Tr.step rfl ?_))
  refine Exec.call (A := []) rfl (kinds_own M1) (List.Perm.refl _) rfl ?_
  rintro _ _ _ - ⟨rfl, bm, es, cl, rfl, rfl, hk0, hk1, hk2, hk3, hkn⟩
  simp only [List.cons_append, List.nil_append]
  (repeat (first | ((with_reducible refine Tr.step rfl ?_); (first | (refine xmQ (z := ?_)) | (refine xaQ (z := ?_)) | (refine xnQ (z := ?_)))) | (with_reducible first | apply Tr.next | apply Tr.seq | apply Tr.region | apply Tr.nil | apply Tr.block)))
  have hR0 : RSt M1 (.agg #[.slice Bf (fxB k).fits.length kf, .slice Ba (beginF k).am.length ka, .slice Bd (beginF k).dy.length kd, .slice Bn (beginF k).nd.length kn, .slice Bu (fxB k).due.length ku, .slice Bb (beginF k).br.length kb]) (fxB k) (beginF k) := ⟨Bf, kf, Ba, ka, Bd, kd, Bn, kn, Bu, ku, Bb, kb, rfl, q1, q2, q3, q4, q5, q6⟩
  clear q1 q2 q3 q4 q5 q6
  have hheld := (fail_nil_iff hfit).1 (by show failF _ _ (k.reqs.map (·.amount)).length = []; rw [List.length_map]; exact hv.2)
  have hm01 := hm0.trans hm1
  refine Tr.loop (α := Nat × Mem × (Value × Value × Value × Value × Value × Value) × St) (fun y => ⟨39, [(18, .int .i64 (y.1 : Int)), (17, .int .i64 (l.length : Int)), (16, .slice A l.length c), (6, .map (some bm)), (5, .pointer (some ⟨b5, 0, none⟩)), (4, .pointer (some ⟨b4, 0, none⟩))], [], y.2.1,
      mapR bm es cl :: box b5 64 [y.2.2.1.1, y.2.2.1.2.1, y.2.2.1.2.2.1, y.2.2.1.2.2.2.1, y.2.2.1.2.2.2.2.1, y.2.2.1.2.2.2.2.2] :: box b4 64 [.slice none 0 0, .slice none 0 0, .slice none 0 0, .slice none 0 0, .slice none 0 0, .slice none 0 0] :: box b2 27 [.int .i64 k.known, .slice As k.sups.length cs, .slice Ar k.reqs.length cr, .slice Af k.fits.length cf, .slice Ad k.reads cd] :: F⟩)
    (fun y => y.1 ≤ l.length ∧ Mem.le M y.2.1 ∧ RSt y.2.1 (.agg #[y.2.2.1.1, y.2.2.1.2.1, y.2.2.1.2.2.1, y.2.2.1.2.2.2.1, y.2.2.1.2.2.2.2.1, y.2.2.1.2.2.2.2.2]) (fxB k) y.2.2.2 ∧ stepsF (fxB k) (beginF k) 0 (l.take y.1) = some y.2.2.2) (fun y => l.length - y.1)
    (0, M1, (.slice Bf (fxB k).fits.length kf, .slice Ba (beginF k).am.length ka, .slice Bd (beginF k).dy.length kd, .slice Bn (beginF k).nd.length kn, .slice Bu (fxB k).due.length ku, .slice Bb (beginF k).br.length kb), beginF k) ⟨Nat.zero_le _, hm01, hR0, rfl⟩ hsQ (fun y hy => ?_)
  clear hR0 hm0 hm1 hm01
  obtain ⟨i, M2, ⟨v1, v2, v3, v4, v5, v6⟩, s⟩ := y
  obtain ⟨hi, hm2, hS, hst⟩ := hy
  dsimp only at hi hm2 hS hst
  dsimp only
  obtain ⟨hfs, -⟩ := stepsF_keep hst hfit hheld
  by_cases hlt : i < l.length
  rotate_left
  · have ei : i = l.length := by omega
    subst ei
    rw [List.take_length] at hst
    obtain ⟨Cf, gf, Ca, ga, Cd, gd, Cn, gn, Cu, gu, Cb, gb, ev, w1, w2, w3, w4, w5, w6⟩ := hS
    injection ev with ev
    simp only [Array.mk.injEq, List.cons.injEq, and_true] at ev
    obtain ⟨rfl, rfl, rfl, rfl, rfl, rfl⟩ := ev
    (repeat (first | ((with_reducible refine Tr.step rfl ?_); (first | (refine xwQ (z := ?_)) | (refine xiQ (z := ?_)) | (refine xWQ (z := ?_)))) | (with_reducible first | apply Tr.next | apply Tr.seq | apply Tr.region | apply Tr.nil | apply Tr.exit | apply Tr.ret | apply Tr.then_exit) | ((with_reducible refine Tr.in_exit ?_ ?_); (exact rfl)) | (refine Tr.cond_f rfl (by first | (with_reducible assumption) | omega) ?_)))
    refine Tr.ofPost ?_
    (refine Tr.done (by first | exact .inl rfl | exact .inr rfl) rfl (by repeat (first | exact RVs.nil | (apply RVs.cons; (exact RV.cellW (by rfl) (tysOk.get (by rfl)) (by rfl) (by repeat (first | exact Has.here | apply Has.there)) (by first | rfl | assumption))))) (by first | exact Mem.le.refl _ | assumption) (by exact ⟨[_, _, _, _], rfl⟩) ⟨rfl, ?_⟩)
    exact ⟨s, hst, Cf, gf, Ca, ga, Cd, gd, Cn, gn, Cu, gu, Cb, gb, rfl, w1, w2, w3, w4, w5, w6⟩
  obtain ⟨hh, hhh⟩ := get_of_lt hlt
  have hl2 := hl.mono RHp.mono hm2
  obtain ⟨hA, ch, hat, rfl⟩ := hl2.elem hhh
  have hcase : (∃ f, valE hh.kind es = some (fnV f) ∧ FnP Try.prog f [.agg #[v1, v2, v3, v4, v5, v6], hpV hh, .int .i64 (i : Int)] M2 [] (fun r M' A' => A' = [] ∧ ∃ s', stepF (fxB k) s hh i = some s' ∧ RSt M' r (fxB k) s') (fun ch _ A' => ch = refCh ∧ A' = [] ∧ stepF (fxB k) s hh i = none)) ∨ valE hh.kind es = none ∧ stepF (fxB k) s hh i = none := by
    by_cases c1 : hh.kind = 1
    · exact .inl ⟨_, by rw [c1]; exact hk1, lose_fn M2 _ (fxB k) s hh i hS hfs c1⟩
    by_cases c2 : hh.kind = 2
    · exact .inl ⟨_, by rw [c2]; exact hk2, late_fn M2 _ (fxB k) s hh i hS hfs c2⟩
    by_cases c3 : hh.kind = 3
    · exact .inl ⟨_, by rw [c3]; exact hk3, ship_fn M2 _ (fxB k) s hh i hS hfs c3⟩
    exact .inr ⟨hkn _ c1 c2 c3, step_other c1 c2 c3⟩
  have hpan := require_n M2
  rcases hcase with ⟨f, hvf, hfn⟩ | ⟨hvn, hsn⟩
  rotate_left
  · (repeat (first | ((with_reducible refine Tr.step rfl ?_); (first | (refine xmQ (z := ?_)) | (refine xaQ (z := ?_)) | ((with_reducible refine Knd.load ?_); (first | (refine xlQ (z := ?_)) | (refine Exec.stab rfl (Stab.loadMA rfl (tysOk.get rfl) rfl (by assumption) (by first | rfl | assumption)) rfl ?_))) | (refine xfQ (z := ?_)) | (refine xiQ (z := ?_)) | (refine xWQ (z := ?_)) | ((with_reducible refine Knd.alloc ?_); (refine Exec.alloc (tysOk.get rfl) rfl rfl (fun b => ?_))) | ((with_reducible refine Knd.lookup ?_); (refine Exec.stab rfl (Stab.lookup2n rfl rfl (tysOk.get rfl) rfl (tysOk.get rfl) rfl (tysOk.get rfl) rfl (by repeat (first | exact Has.here | apply Has.there)) (by assumption) (by assumption)) rfl ?_)) | ((with_reducible refine Knd.extract ?_); (refine Exec.stab rfl (Stab.extract rfl rfl) rfl ?_)) | (refine xxQ (z := ?_)))) | (with_reducible first | apply Tr.next | apply Tr.seq | apply Tr.region | apply Tr.nil | apply Tr.skip | apply Tr.block) | (refine Tr.cond_t rfl (by first | (with_reducible assumption) | omega) ?_)))
    ((refine Tr.step rfl ?_))
    refine Exec.callP rfl hpan (List.Perm.refl _) rfl (fun v M' A' hm hR => hR.elim) (fun ch M' A' hm hR => ?_)
    obtain ⟨rfl, rfl, rfl⟩ := hR
    (repeat (first | (with_reducible first | apply Tr.then_panic | apply Tr.in_panic)))
    exact Tr.doneP (A' := []) hm2 (by repeat (first | exact DropL.refl | apply DropL.skip)) ⟨rfl, rfl, steps_stop hst hhh hsn⟩
  (repeat (first | ((with_reducible refine Tr.step rfl ?_); (first | (refine xmQ (z := ?_)) | (refine xaQ (z := ?_)) | ((with_reducible refine Knd.load ?_); (first | (refine xlQ (z := ?_)) | (refine Exec.stab rfl (Stab.loadMA rfl (tysOk.get rfl) rfl (by assumption) (by first | rfl | assumption)) rfl ?_))) | (refine xfQ (z := ?_)) | (refine xiQ (z := ?_)) | (refine xWQ (z := ?_)) | ((with_reducible refine Knd.alloc ?_); (refine Exec.alloc (tysOk.get rfl) rfl rfl (fun b => ?_))) | ((with_reducible refine Knd.lookup ?_); (refine Exec.stab rfl (Stab.lookup2s rfl rfl (tysOk.get rfl) rfl (tysOk.get rfl) rfl (tysOk.get rfl) (by repeat (first | exact Has.here | apply Has.there)) (by assumption) (by assumption)) rfl ?_)) | ((with_reducible refine Knd.extract ?_); (refine Exec.stab rfl (Stab.extract rfl rfl) rfl ?_)) | (refine xxQ (z := ?_)))) | (with_reducible first | apply Tr.next | apply Tr.seq | apply Tr.region | apply Tr.nil | apply Tr.skip | apply Tr.block) | (refine Tr.cond_t rfl (by first | (with_reducible assumption) | omega) ?_)))
  ((refine Tr.step rfl ?_)); refine Exec.call0 rfl (require_y M2) rfl ?_
  rintro _ _ _ rfl
  (repeat (first | ((with_reducible refine Tr.step rfl ?_); (first | (refine xmQ (z := ?_)) | (refine xwQ (z := ?_)))) | (with_reducible first | apply Tr.next | apply Tr.region | apply Tr.nil)))
  ((refine Tr.step rfl ?_))
  refine Exec.callPv (first := []) (cap := []) rfl rfl hfn (List.Perm.refl _) rfl (fun v M3 A' hm3 hR => ?_) (fun ch M' A' hm3 hR => ?_)
  rotate_left
  · obtain ⟨rfl, rfl, hsn⟩ := hR
    (repeat (first | (with_reducible first | apply Tr.then_panic | apply Tr.in_panic)))
    exact Tr.doneP (A' := []) (hm2.trans hm3) (by repeat (first | exact DropL.refl | apply DropL.skip)) ⟨rfl, rfl, steps_stop hst hhh hsn⟩
  obtain ⟨rfl, s', hsy, Cf, gf, Ca, ga, Cd, gd, Cn, gn, Cu, gu, Cb, gb, rfl, w1, w2, w3, w4, w5, w6⟩ := hR
  (repeat (first | ((with_reducible refine Tr.step rfl ?_); (first | (refine xmQ (z := ?_)) | (refine xdQ (z := ?_)) | (refine xWQ (z := ?_)))) | (with_reducible first | apply Tr.next | apply Tr.region | apply Tr.nil | apply Tr.in_normal)))
  refine gvQ (r := box b _ _) (k := ?_)
  refine Tr.again (i + 1, M3, (.slice Cf (fxB k).fits.length gf, .slice Ca s'.am.length ga, .slice Cd s'.dy.length gd, .slice Cn s'.nd.length gn, .slice Cu (fxB k).due.length gu, .slice Cb s'.br.length gb), s') ⟨by show i + 1 ≤ _; omega, hm2.trans hm3, ⟨Cf, gf, Ca, ga, Cd, gd, Cn, gn, Cu, gu, Cb, gb, rfl, w1, w2, w3, w4, w5, w6⟩, steps_next hst hhh hsy⟩ (by simp only; omega) hsQ
end Go.Proofs.Ytgnipfjjkliibaa

/-
  Honour: result.
  Conditions: none.
-/
namespace Go.Proofs.Ytgnipfjjkliibaa
open Go Bf
attribute [local irreducible] Tr Exec Stab HasTy Go.Addr.add IntKind.wrap
def spV (y : Sp) : List Value := [.int .i64 y.no, .int .i64 y.item, .int .i64 y.plant, .int .i64 y.ready, .int .i64 y.expiry, .int .i64 y.amount]
def rqV (y : Rq) : List Value := [.int .i64 y.no, .int .i64 y.item, .int .i64 y.cust, .int .i64 y.due, .int .i64 y.shelf, .int .i64 y.amount]
theorem spV_len (y : Sp) : (spV y).length = 6 := rfl
theorem rqV_len (y : Rq) : (rqV y).length = 6 := rfl
theorem spV_one (y : Sp) : ∀ u ∈ spV y, u.oneCell' = true := by
  intro u hu
  simp only [spV, List.mem_cons, List.not_mem_nil, or_false] at hu
  rcases hu with rfl | rfl | rfl | rfl | rfl | rfl <;> rfl
theorem rqV_one (y : Rq) : ∀ u ∈ rqV y, u.oneCell' = true := by
  intro u hu
  simp only [rqV, List.mem_cons, List.not_mem_nil, or_false] at hu
  rcases hu with rfl | rfl | rfl | rfl | rfl | rfl <;> rfl
set_option maxHeartbeats 4000000 in
theorem cloneS_fn (M : Mem) (A : Option Addr) (c : Nat) (l : List Sp) (hl : SlOf 6 RSp M (.slice A l.length c) l) (hs : l.length ≤ 1000000) :
    Bf.Fn Try.prog 47 [.slice A l.length c] M [] (fun r M' A' => (∃ B k, r = .slice B l.length k ∧ k ≤ 9223372036854775807 ∧ A' = [ownS 58 6 B l.length k (l.flatMap spV)]) ∧ M = M') := by
  have hrow := SlOf.row hl (fun _ _ h => h) spV_len
  have hcap := SlOf.cells hl
  refine Fn.intro Try.func47 rfl rfl Try.ntmps47 rfl fun E F => ?_
  by_cases hA : A = none
  · obtain ⟨-, -, -, -, hnil, -⟩ := hcap
    have hnil : l = [] := List.eq_nil_of_length_eq_zero (hnil hA)
    subst hnil
    (repeat (first | ((with_reducible refine Tr.step rfl ?_); (first | (refine xmQ (z := ?_)) | (refine xaQ (z := ?_)) | ((with_reducible refine Knd.binOp ?_); (refine Exec.stab rfl (Stab.slnil rfl (tysOk.get rfl) rfl) rfl ?_)))) | (with_reducible first | apply Tr.next | apply Tr.seq | apply Tr.region | apply Tr.nil | apply Tr.ret | apply Tr.then_ret) | (refine Tr.cond_t rfl (by first | (with_reducible assumption) | (with_reducible rfl) | (with_reducible exact (not_not_intro rfl)) | omega) ?_)))
    refine Tr.own_nil 58 6 ?_
    refine Tr.doneA (A' := [ownS 58 6 none 0 0 []]) (by first | exact .inl rfl | exact .inr rfl) rfl (by repeat (first | exact RVs.nil | (apply RVs.cons; (exact RV.tmp rfl)))) (Mem.le.refl _) ⟨fun _ h => h, fun h => h⟩ ⟨⟨none, 0, rfl, by omega, rfl⟩, rfl⟩
  · (repeat (first | ((with_reducible refine Tr.step rfl ?_); (first | (refine xmQ (z := ?_)) | (refine xaQ (z := ?_)) | ((with_reducible refine Knd.binOp ?_); (refine Exec.stab rfl (Stab.slnil rfl (tysOk.get rfl) rfl) rfl ?_)) | ((with_reducible refine Knd.buildSlice ?_); (refine Exec.buildSlice (tysOk.get rfl) rfl (tysOk.get rfl) rfl rfl rfl rfl rfl (by repeat (first | exact BuildP.nil | ((apply BuildP.one); (rfl); (rfl); (first | rfl | assumption); (repeat (first | exact SetL.z | apply SetL.s))) | ((apply BuildP.many); (rfl); (rfl); (rfl); (rfl); (repeat (first | exact PutL.nil | ((apply PutL.cons); (repeat (first | exact SetL.z | apply SetL.s)))))))) rfl (fun b => ?_))))) | (with_reducible first | apply Tr.next | apply Tr.seq | apply Tr.region | apply Tr.nil | apply Tr.skip) | (refine Tr.cond_f rfl (by first | (with_reducible assumption) | (with_reducible rfl) | (with_reducible exact (not_not_intro rfl)) | omega) ?_)))
    refine Tr.box_own 6 0 (by repeat (first | exact Upd.here | apply Upd.there)) rfl (by intro u hu; cases hu) (by simp [maxLen]) ?_
    ((refine Tr.step rfl ?_))
    refine Exec.append (news := l.flatMap spV) rfl rfl (tysOk.get rfl) rfl (tysOk.get rfl) rfl rfl rfl rfl (by repeat (first | exact Del.here | apply Del.there)) (Src.row hrow) (flatMap_len spV_len _) (flatMap_one spV_one _) (by omega) (by omega) rfl (fun A6 c6 hc6 => ?_)
    rw [Nat.zero_add]
    (repeat (first | ((with_reducible refine Tr.step rfl ?_); (with_reducible refine Knd.assign ?_); (refine xaQ (z := ?_))) | (with_reducible first | apply Tr.next | apply Tr.nil | apply Tr.ret)))
    refine Tr.doneA (A' := [ownS 58 6 A6 l.length c6 (l.flatMap spV)]) (by first | exact .inl rfl | exact .inr rfl) rfl (by repeat (first | exact RVs.nil | (apply RVs.cons; (exact RV.tmp rfl)))) (Mem.le.refl _) ⟨fun _ h => h, fun h => h⟩ ⟨⟨A6, c6, rfl, hc6, rfl⟩, rfl⟩
set_option maxHeartbeats 4000000 in
theorem cloneR_fn (M : Mem) (A : Option Addr) (c : Nat) (l : List Rq) (hl : SlOf 6 RRq M (.slice A l.length c) l) (hs : l.length ≤ 1000000) :
    Bf.Fn Try.prog 48 [.slice A l.length c] M [] (fun r M' A' => (∃ B k, r = .slice B l.length k ∧ k ≤ 9223372036854775807 ∧ A' = [ownS 54 6 B l.length k (l.flatMap rqV)]) ∧ M = M') := by
  have hrow := SlOf.row hl (fun _ _ h => h) rqV_len
  have hcap := SlOf.cells hl
  refine Fn.intro Try.func48 rfl rfl Try.ntmps48 rfl fun E F => ?_
  by_cases hA : A = none
  · obtain ⟨-, -, -, -, hnil, -⟩ := hcap
    have hnil : l = [] := List.eq_nil_of_length_eq_zero (hnil hA)
    subst hnil
    (repeat (first | ((with_reducible refine Tr.step rfl ?_); (first | (refine xmQ (z := ?_)) | (refine xaQ (z := ?_)) | ((with_reducible refine Knd.binOp ?_); (refine Exec.stab rfl (Stab.slnil rfl (tysOk.get rfl) rfl) rfl ?_)))) | (with_reducible first | apply Tr.next | apply Tr.seq | apply Tr.region | apply Tr.nil | apply Tr.ret | apply Tr.then_ret) | (refine Tr.cond_t rfl (by first | (with_reducible assumption) | (with_reducible rfl) | (with_reducible exact (not_not_intro rfl)) | omega) ?_)))
    refine Tr.own_nil 54 6 ?_
    refine Tr.doneA (A' := [ownS 54 6 none 0 0 []]) (by first | exact .inl rfl | exact .inr rfl) rfl (by repeat (first | exact RVs.nil | (apply RVs.cons; (exact RV.tmp rfl)))) (Mem.le.refl _) ⟨fun _ h => h, fun h => h⟩ ⟨⟨none, 0, rfl, by omega, rfl⟩, rfl⟩
  · (repeat (first | ((with_reducible refine Tr.step rfl ?_); (first | (refine xmQ (z := ?_)) | (refine xaQ (z := ?_)) | ((with_reducible refine Knd.binOp ?_); (refine Exec.stab rfl (Stab.slnil rfl (tysOk.get rfl) rfl) rfl ?_)) | ((with_reducible refine Knd.buildSlice ?_); (refine Exec.buildSlice (tysOk.get rfl) rfl (tysOk.get rfl) rfl rfl rfl rfl rfl (by repeat (first | exact BuildP.nil | ((apply BuildP.one); (rfl); (rfl); (first | rfl | assumption); (repeat (first | exact SetL.z | apply SetL.s))) | ((apply BuildP.many); (rfl); (rfl); (rfl); (rfl); (repeat (first | exact PutL.nil | ((apply PutL.cons); (repeat (first | exact SetL.z | apply SetL.s)))))))) rfl (fun b => ?_))))) | (with_reducible first | apply Tr.next | apply Tr.seq | apply Tr.region | apply Tr.nil | apply Tr.skip) | (refine Tr.cond_f rfl (by first | (with_reducible assumption) | (with_reducible rfl) | (with_reducible exact (not_not_intro rfl)) | omega) ?_)))
    refine Tr.box_own 6 0 (by repeat (first | exact Upd.here | apply Upd.there)) rfl (by intro u hu; cases hu) (by simp [maxLen]) ?_
    ((refine Tr.step rfl ?_))
    refine Exec.append (news := l.flatMap rqV) rfl rfl (tysOk.get rfl) rfl (tysOk.get rfl) rfl rfl rfl rfl (by repeat (first | exact Del.here | apply Del.there)) (Src.row hrow) (flatMap_len rqV_len _) (flatMap_one rqV_one _) (by omega) (by omega) rfl (fun A6 c6 hc6 => ?_)
    rw [Nat.zero_add]
    (repeat (first | ((with_reducible refine Tr.step rfl ?_); (with_reducible refine Knd.assign ?_); (refine xaQ (z := ?_))) | (with_reducible first | apply Tr.next | apply Tr.nil | apply Tr.ret)))
    refine Tr.doneA (A' := [ownS 54 6 A6 l.length c6 (l.flatMap rqV)]) (by first | exact .inl rfl | exact .inr rfl) rfl (by repeat (first | exact RVs.nil | (apply RVs.cons; (exact RV.tmp rfl)))) (Mem.le.refl _) ⟨fun _ h => h, fun h => h⟩ ⟨⟨A6, c6, rfl, hc6, rfl⟩, rfl⟩
/-- a list changed up to a place -/
def upTo {α : Type} (f : Nat → α → α) (l ys : List α) (i : Nat) : Prop := ys.length = l.length ∧ ∀ t, ys[t]? = if t < i then (l[t]?).map (f t) else l[t]?
theorem upTo.step {α : Type} {f : Nat → α → α} {l ys : List α} {i : Nat} (h : upTo f l ys i) {y : α} (hy : l[i]? = some y) : upTo f l (ys.set i (f i y)) (i + 1) := by
  refine ⟨by rw [List.length_set]; exact h.1, fun t => ?_⟩
  have hi := (List.getElem?_eq_some_iff.1 hy).1
  by_cases e : t = i
  · subst e
    rw [List.getElem?_set_self (by have := h.1; omega), if_pos (by omega), hy]; rfl
  · rw [List.getElem?_set_ne (by omega), h.2 t]
    by_cases e2 : t < i
    · rw [if_pos e2, if_pos (by omega)]
    · rw [if_neg e2, if_neg (by omega)]
theorem upTo.fin {α : Type} {f : Nat → α → α} {l ys : List α} (h : upTo f l ys l.length) (d : α) : ys = (List.range l.length).map fun i => f i (l.getD i d) := by
  apply List.ext_getElem?
  intro t
  rw [h.2 t]
  by_cases ht : t < l.length
  · simp [ht, List.getD_eq_getElem?_getD]
  · rw [if_neg ht, List.getElem?_eq_none (by omega), List.getElem?_eq_none (by simp; omega)]
theorem upTo.at {α : Type} {f : Nat → α → α} {l ys : List α} {i : Nat} (h : upTo f l ys i) {y : α} (hy : l[i]? = some y) : ys[i]? = some y := by
  rw [h.2 i, if_neg (by omega)]; exact hy
theorem upTo.zero {α : Type} (f : Nat → α → α) (l : List α) : upTo f l l 0 := ⟨rfl, fun t => by rw [if_neg (by omega)]⟩
end Go.Proofs.Ytgnipfjjkliibaa

/-
  Honour: result.
  Conditions: none.
-/
namespace Go.Proofs.Ytgnipfjjkliibaa
open Go Bf
attribute [local irreducible] Tr Exec Stab HasTy Go.Addr.add IntKind.wrap
def resS (s : St) (t : Nat) (y : Sp) : Sp := setSup y (s.am.getD t 0) (s.dy.getD t 0)
def resR (s : St) (t : Nat) (y : Rq) : Rq := setReq y (if 0 ≤ s.br.getD t 0 then 0 else s.nd.getD t 0)
theorem set_twice {α : Type} (l : List α) (i : Nat) (x y : α) : (l.set i x).set i y = l.set i y := List.set_set ..
set_option maxHeartbeats 16000000 in
theorem result_fn (M : Mem) (v w : Value) (k : Bk) (s : St) (h : RBk M v k) (hS : RSt M w (fxB k) s) (hf : Fit (fxB k) s) (hls : s.am.length = k.sups.length) (hlr : s.nd.length = k.reqs.length) :
    Fn0 Try.prog 26 [v, w] M (fun r M' => RBk M' r (resF k s)) := by
  obtain ⟨As, cs, Ar, cr, Af, cf, Ad, cd, rfl, h1, h2, h3⟩ := h
  have hS0 := hS
  obtain ⟨Bf, kf, Ba, ka, Bd, kd, Bn, kn, Bu, ku, Bb, kb, rfl, q1, q2, q3, q4, q5, q6⟩ := hS
  have hsv := serving_fn M _ (fxB k) s hS0 hf
  have z1 := hf.l64
  have z2 := hf.r64
  have z3 := hf.dyl
  have z4 := hf.brl
  refine Fn.intro Try.func26 rfl rfl Try.ntmps26 rfl fun E F => ?_
  (repeat (first | ((with_reducible refine Tr.step rfl ?_); (first | (refine xlQ (z := ?_)) | (refine xfQ (z := ?_)) | ((with_reducible refine Knd.box ?_); (refine Exec.box rfl rfl (fun b => ?_))) | ((with_reducible refine Knd.alloc ?_); (refine Exec.alloc (tysOk.get rfl) rfl rfl (fun b => ?_))))) | (with_reducible first | apply Tr.next | apply Tr.seq | apply Tr.region | apply Tr.nil)))
  generalize b = b4
  rename_i b2 b3
  ((refine Tr.step rfl ?_))
  refine Exec.call (A := []) rfl (cloneS_fn M As cs k.sups h1 (by omega)) (List.Perm.refl _) rfl ?_
  rintro _ _ _ - ⟨⟨A1, c1, rfl, hc1, rfl⟩, rfl⟩
  simp only [List.cons_append, List.nil_append]
  (repeat (first | ((with_reducible refine Tr.step rfl ?_); (first | (refine xmQ (z := ?_)) | (refine xlQ (z := ?_)) | (refine xfQ (z := ?_)) | (refine xnQ (z := ?_)) | (refine xSQ (z := ?_)))) | (with_reducible first | apply Tr.next | apply Tr.seq | apply Tr.region | apply Tr.nil | apply Tr.block)))
  refine Tr.loop (α := Nat × List Sp) (fun y => ⟨74, [(14, .int .i64 (y.1 : Int)), (13, .int .i64 (k.sups.length : Int)), (12, .slice A1 k.sups.length c1), (4, .pointer (some ⟨b4, 0, none⟩)), (3, .pointer (some ⟨b3, 0, none⟩)), (2, .pointer (some ⟨b2, 0, none⟩))], [], M,
      ownS 58 6 A1 k.sups.length c1 (y.2.flatMap spV) :: box b4 27 [.int .i64 0, .slice none 0 0, .slice none 0 0, .slice none 0 0, .slice none 0 0] :: box b3 64 [.slice Bf (fxB k).fits.length kf, .slice Ba s.am.length ka, .slice Bd s.dy.length kd, .slice Bn s.nd.length kn, .slice Bu (fxB k).due.length ku, .slice Bb s.br.length kb] :: box b2 27 [.int .i64 k.known, .slice A1 k.sups.length c1, .slice Ar k.reqs.length cr, .slice Af k.fits.length cf, .slice Ad k.reads cd] :: F⟩)
    (fun y => y.1 ≤ k.sups.length ∧ upTo (resS s) k.sups y.2 y.1) (fun y => k.sups.length - y.1) (0, k.sups) ⟨Nat.zero_le _, upTo.zero _ _⟩ hsQ (fun y hy => ?_)
  obtain ⟨i, ys⟩ := y
  obtain ⟨hi, hup⟩ := hy
  dsimp only at hi hup
  dsimp only
  by_cases hlt : i < k.sups.length
  · obtain ⟨y, hy⟩ := get_of_lt hlt
    have hyy := hup.at hy
    obtain ⟨a, ha⟩ := get_of_lt (xs := s.am) (i := i) (by omega)
    obtain ⟨d, hd⟩ := get_of_lt (xs := s.dy) (i := i) (by omega)
    have had := getD_of (d := (0 : Int)) ha
    have hdd := getD_of (d := (0 : Int)) hd
    obtain ⟨hAa, hata⟩ := Ints.at q2 ha
    obtain ⟨hAd, hatd⟩ := Ints.at q3 hd
    refine Tr.own_some A1 (e := 58) (sz := 6) (m := k.sups.length) (c := c1) (xs := ys.flatMap spV) (by repeat (first | exact Has.here | apply Has.there)) (by omega) (fun hA1 => ?_)
    (repeat (first | ((with_reducible refine Tr.step rfl ?_); (first | (refine xmQ (z := ?_)) | (refine xaQ (z := ?_)) | (refine xiQ (z := ?_)))) | (with_reducible first | apply Tr.next | apply Tr.seq | apply Tr.region | apply Tr.nil | apply Tr.skip | apply Tr.block) | (refine Tr.cond_t rfl (by first | (with_reducible assumption) | omega) ?_)))
    (((apply Tr.draw); (kernel_rfl)); (refine tkQ 0 (hB := by exact fun _ h => h) (s := by exact sfQ) (h := ?_)); (refine tkQ 2 (s := by exact Stab.move rfl) (h := ?_)); (refine tkQ 3 (s := by exact sfQ) (h := ?_)); (refine tkQ 5 (s := by exact Stab.move rfl) (h := ?_)); (refine tkQ 1 (s := by exact slQ) (h := ?_)); (refine tkQ 4 (s := by exact slQ) (h := ?_)); (refine tkQ 6 (s := by exact sxQ) (h := ?_)); (refine tkQ 7 (s := by exact sMQ) (h := ?_)); (refine tkQ 8 (s := by exact sxQ) (h := ?_)); (refine tkQ 9 (s := by exact Stab.fieldD rfl (tysOk.get rfl) rfl rfl (tysOk.get rfl) rfl) (h := ?_)); (refine TrA.effD 10 rfl (by kernel_rfl) (by kernel_rfl) (by exact .inl rfl) ?_); (((refine Knd.store ?_); ((refine Exec.storeN rfl rfl (tysOk.get rfl) rfl (by first | rfl | assumption) (by repeat (first | exact Upd.here | apply Upd.there)) (by omega) ?_)))); (refine ⟨_, fun _ h => h, ?_⟩); (refine TrA.done (by kernel_rfl) ?_))
    rw [Int.toNat_natCast i, flatMap_set spV_len (by omega) hyy (y := { y with amount := a }) rfl]
    have hy2 : (ys.set i { y with amount := a })[i]? = some { y with amount := a } := List.getElem?_set_self (List.getElem?_eq_some_iff.1 hyy).1
    (repeat ((with_reducible refine Tr.next ?_)))
    (((apply Tr.draw); (kernel_rfl)); (refine tkQ 0 (hB := by exact fun _ h => h) (s := by exact sfQ) (h := ?_)); (refine tkQ 2 (s := by exact Stab.move rfl) (h := ?_)); (refine tkQ 3 (s := by exact sfQ) (h := ?_)); (refine tkQ 5 (s := by exact Stab.move rfl) (h := ?_)); (refine tkQ 1 (s := by exact slQ) (h := ?_)); (refine tkQ 4 (s := by exact slQ) (h := ?_)); (refine tkQ 6 (s := by exact sxQ) (h := ?_)); (refine tkQ 7 (s := by exact sMQ) (h := ?_)); (refine tkQ 8 (s := by exact sxQ) (h := ?_)); (refine tkQ 9 (s := by exact Stab.fieldD rfl (tysOk.get rfl) rfl rfl (tysOk.get rfl) rfl) (h := ?_)); (refine TrA.effD 10 rfl (by kernel_rfl) (by kernel_rfl) (by exact .inl rfl) ?_); (((refine Knd.store ?_); ((refine Exec.storeN rfl rfl (tysOk.get rfl) rfl (by first | rfl | assumption) (by repeat (first | exact Upd.here | apply Upd.there)) (by omega) ?_)))); (refine ⟨_, fun _ h => h, ?_⟩); (refine TrA.done (by kernel_rfl) ?_))
    rw [Int.toNat_natCast i, flatMap_set spV_len (by omega) hy2 (y := setSup y a d) rfl, set_twice]
    (repeat (first | ((with_reducible refine Tr.step rfl ?_); (first | (refine xmQ (z := ?_)) | (refine xdQ (z := ?_)))) | (with_reducible first | apply Tr.next | apply Tr.region | apply Tr.nil | apply Tr.in_normal)))
    refine Tr.again (i + 1, ys.set i (setSup y a d)) ⟨by simp only; omega, ?_⟩ (by simp only; omega) hsQ
    have := hup.step hy
    rw [resS, had, hdd] at this
    exact this
  have ei : i = k.sups.length := by omega
  subst ei
  obtain rfl := hup.fin ⟨0, 0, 0, 0, 0, 0⟩
  generalize hss : ((List.range k.sups.length).map fun i => resS s i (k.sups.getD i ⟨0, 0, 0, 0, 0, 0⟩)) = ss
  have hssl : ss.length = k.sups.length := by rw [← hss]; simp
  (repeat (first | ((with_reducible refine Tr.step rfl ?_); (first | (refine xlQ (z := ?_)) | (refine xfQ (z := ?_)) | (refine xiQ (z := ?_)))) | (with_reducible first | apply Tr.next | apply Tr.seq | apply Tr.region | apply Tr.nil | apply Tr.exit | apply Tr.then_exit) | ((with_reducible refine Tr.in_exit ?_ ?_); (exact rfl)) | (refine Tr.cond_f rfl (by first | (with_reducible assumption) | omega) ?_)))
  ((refine Tr.step rfl ?_))
  refine Exec.call (A := []) rfl (cloneR_fn M Ar cr k.reqs h2 (by omega)) (List.Perm.refl _) rfl ?_
  rintro _ _ _ - ⟨⟨A2, c2, rfl, hc2, rfl⟩, rfl⟩
  simp only [List.cons_append, List.nil_append]
  (repeat (first | ((with_reducible refine Tr.step rfl ?_); (first | (refine xmQ (z := ?_)) | (refine xlQ (z := ?_)) | (refine xfQ (z := ?_)) | (refine xnQ (z := ?_)) | (refine xSQ (z := ?_)))) | (with_reducible first | apply Tr.next | apply Tr.seq | apply Tr.region | apply Tr.nil | apply Tr.block)))
  refine Tr.loop (α := Nat × List Rq) (fun y => ⟨74, [(45, .int .i64 (y.1 : Int)), (44, .int .i64 (k.reqs.length : Int)), (43, .slice A2 k.reqs.length c2), (4, .pointer (some ⟨b4, 0, none⟩)), (3, .pointer (some ⟨b3, 0, none⟩)), (2, .pointer (some ⟨b2, 0, none⟩))], [], M,
      ownS 54 6 A2 k.reqs.length c2 (y.2.flatMap rqV) :: ownS 58 6 A1 k.sups.length c1 (ss.flatMap spV) :: box b4 27 [.int .i64 0, .slice none 0 0, .slice none 0 0, .slice none 0 0, .slice none 0 0] :: box b3 64 [.slice Bf (fxB k).fits.length kf, .slice Ba s.am.length ka, .slice Bd s.dy.length kd, .slice Bn s.nd.length kn, .slice Bu (fxB k).due.length ku, .slice Bb s.br.length kb] :: box b2 27 [.int .i64 k.known, .slice A1 k.sups.length c1, .slice A2 k.reqs.length c2, .slice Af k.fits.length cf, .slice Ad k.reads cd] :: F⟩)
    (fun y => y.1 ≤ k.reqs.length ∧ upTo (resR s) k.reqs y.2 y.1) (fun y => k.reqs.length - y.1) (0, k.reqs) ⟨Nat.zero_le _, upTo.zero _ _⟩ hsQ (fun y hy => ?_)
  obtain ⟨i, ys⟩ := y
  obtain ⟨hi, hup⟩ := hy
  dsimp only at hi hup
  dsimp only
  by_cases hlt2 : i < k.reqs.length
  · obtain ⟨y, hy⟩ := get_of_lt hlt2
    have hyy := hup.at hy
    obtain ⟨a, ha⟩ := get_of_lt (xs := s.nd) (i := i) (by omega)
    obtain ⟨d, hd⟩ := get_of_lt (xs := s.br) (i := i) (by omega)
    have had := getD_of (d := (0 : Int)) ha
    have hdd := getD_of (d := (0 : Int)) hd
    obtain ⟨hAa, hata⟩ := Ints.at q4 ha
    obtain ⟨hAd, hatd⟩ := Ints.at q6 hd
    have hstep := hup.step hy
    refine Tr.own_some A2 (e := 54) (sz := 6) (m := k.reqs.length) (c := c2) (xs := ys.flatMap rqV) (by repeat (first | exact Has.here | apply Has.there)) (by omega) (fun hA1 => ?_)
    (repeat (first | ((with_reducible refine Tr.step rfl ?_); (first | (refine xmQ (z := ?_)) | (refine xaQ (z := ?_)) | (refine xiQ (z := ?_)))) | (with_reducible first | apply Tr.next | apply Tr.seq | apply Tr.region | apply Tr.nil | apply Tr.skip | apply Tr.block) | (refine Tr.cond_t rfl (by first | (with_reducible assumption) | omega) ?_)))
    (((apply Tr.draw); (kernel_rfl)); (refine tkQ 0 (hB := by exact fun _ h => h) (s := by exact sfQ) (h := ?_)); (refine tkQ 2 (s := by exact Stab.move rfl) (h := ?_)); (refine tkQ 3 (s := by exact sfQ) (h := ?_)); (refine tkQ 5 (s := by exact Stab.move rfl) (h := ?_)); (refine tkQ 1 (s := by exact slQ) (h := ?_)); (refine tkQ 4 (s := by exact slQ) (h := ?_)); (refine tkQ 6 (s := by exact sxQ) (h := ?_)); (refine tkQ 7 (s := by exact sMQ) (h := ?_)); (refine tkQ 8 (s := by exact sxQ) (h := ?_)); (refine tkQ 9 (s := by exact Stab.fieldD rfl (tysOk.get rfl) rfl rfl (tysOk.get rfl) rfl) (h := ?_)); (refine TrA.effD 10 rfl (by kernel_rfl) (by kernel_rfl) (by exact .inl rfl) ?_); (((refine Knd.store ?_); ((refine Exec.storeN rfl rfl (tysOk.get rfl) rfl (by first | rfl | assumption) (by repeat (first | exact Upd.here | apply Upd.there)) (by omega) ?_)))); (refine ⟨_, fun _ h => h, ?_⟩); (refine TrA.done (by kernel_rfl) ?_))
    rw [Int.toNat_natCast i, flatMap_set rqV_len (by omega) hyy (y := { y with amount := a }) rfl]
    have hy2 : (ys.set i { y with amount := a })[i]? = some { y with amount := a } := List.getElem?_set_self (List.getElem?_eq_some_iff.1 hyy).1
    by_cases hb : 0 ≤ d
    · (repeat (first | ((with_reducible refine Tr.step rfl ?_); (first | (refine xmQ (z := ?_)) | ((with_reducible refine Knd.load ?_); (first | (refine xlQ (z := ?_)) | (refine xMQ (z := ?_)))) | ((with_reducible refine Knd.fieldAddr ?_); (first | (refine xfQ (z := ?_)) | (refine Exec.stab rfl (Stab.fieldD rfl (tysOk.get rfl) rfl rfl (tysOk.get rfl) rfl) rfl ?_))) | ((with_reducible refine Knd.binOp ?_); (first | (refine xdQ (z := ?_)) | (refine xiQ (z := ?_)))) | ((with_reducible refine Knd.store ?_); (refine Exec.storeN rfl rfl (tysOk.get rfl) rfl (by first | rfl | assumption) (by repeat (first | exact Upd.here | apply Upd.there)) (by omega) ?_)) | (refine xxQ (z := ?_)))) | (with_reducible first | apply Tr.next | apply Tr.seq | apply Tr.region | apply Tr.nil | apply Tr.in_normal) | (refine Tr.cond_t rfl (by (with_reducible assumption)) ?_)))
      rw [Int.toNat_natCast i, flatMap_set rqV_len (by omega) hy2 (y := setReq y 0) rfl, set_twice]
      rw [resR, had, hdd, if_pos hb] at hstep
      exact Tr.again (i + 1, ys.set i (setReq y 0)) ⟨by simp only; omega, hstep⟩ (by simp only; omega) hsQ
    · (repeat (first | ((with_reducible refine Tr.step rfl ?_); (first | (refine xmQ (z := ?_)) | ((with_reducible refine Knd.load ?_); (first | (refine xlQ (z := ?_)) | (refine xMQ (z := ?_)))) | (refine xfQ (z := ?_)) | ((with_reducible refine Knd.binOp ?_); (first | (refine xdQ (z := ?_)) | (refine xiQ (z := ?_)))) | (refine xxQ (z := ?_)))) | (with_reducible first | apply Tr.next | apply Tr.seq | apply Tr.region | apply Tr.nil | apply Tr.skip | apply Tr.in_normal) | (refine Tr.cond_f rfl (by (with_reducible assumption)) ?_)))
      rw [resR, had, hdd, if_neg hb] at hstep
      exact Tr.again (i + 1, ys.set i (setReq y a)) ⟨by simp only; omega, hstep⟩ (by simp only; omega) hsQ
  have ei : i = k.reqs.length := by omega
  subst ei
  obtain rfl := hup.fin ⟨0, 0, 0, 0, 0, 0⟩
  generalize hrs : ((List.range k.reqs.length).map fun i => resR s i (k.reqs.getD i ⟨0, 0, 0, 0, 0, 0⟩)) = rs
  have hrsl : rs.length = k.reqs.length := by rw [← hrs]; simp
  refine pbQ (r := ownS 58 6 A1 _ _ _) (k := fun M1 hm1 ok1 => ?_)
  have i1 := SlOf.ofOwn ok1 hssl.symm hc1 (Elems.flat (R := RSp) spV_len (fun _ => rfl) ss)
  refine pbQ (r := ownS 54 6 A2 _ _ _) (k := fun M2 hm2 ok2 => ?_)
  have i2 := SlOf.ofOwn ok2 hrsl.symm hc2 (Elems.flat (R := RRq) rqV_len (fun _ => rfl) rs)
  have hm12 := hm1.trans hm2
  (repeat (first | ((with_reducible refine Tr.step rfl ?_); (first | (refine xwQ (z := ?_)) | (refine xiQ (z := ?_)))) | (with_reducible first | apply Tr.next | apply Tr.seq | apply Tr.region | apply Tr.nil | apply Tr.exit | apply Tr.then_exit) | ((with_reducible refine Tr.in_exit ?_ ?_); (exact rfl)) | (refine Tr.cond_f rfl (by first | (with_reducible assumption) | omega) ?_)))
  ((refine Tr.step rfl ?_))
  refine Exec.call0 rfl (serving_fn M2 _ (fxB k) s (hS0.mono hm12) hf) rfl ?_
  rintro _ M3 hm3 ⟨A3, c3, rfl, ht⟩
  have hlast := hm12.trans hm3
  (repeat (first | ((with_reducible refine Tr.step rfl ?_); (first | (refine xwQ (z := ?_)) | (refine xfQ (z := ?_)) | ((with_reducible refine Knd.store ?_); (first | (refine xSQ (z := ?_)) | (refine xWQ (z := ?_)))))) | (with_reducible first | apply Tr.next | apply Tr.seq | apply Tr.region | apply Tr.nil | apply Tr.ret)))
  (refine Tr.done (by first | exact .inl rfl | exact .inr rfl) rfl (by repeat (first | exact RVs.nil | (apply RVs.cons; (exact RV.cellW (by rfl) (tysOk.get (by rfl)) (by rfl) (by repeat (first | exact Has.here | apply Has.there)) (by first | rfl | assumption))))) (by first | exact Mem.le.refl _ | assumption) (by exact ⟨[_, _, _], rfl⟩) ⟨rfl, ?_⟩)
  refine ⟨A1, c1, A2, c2, A3, c3, Ad, cd, ?_, ?_, ?_, ?_⟩
  · show _ = Value.agg #[_, .slice _ (List.length _) _, .slice _ (List.length _) _, .slice _ (tabL k.fits (k.reqs.map (·.due)) s.dy).length _, _]
    rw [show (resF k s).sups.length = k.sups.length by simp [resF], show (resF k s).reqs.length = k.reqs.length by simp [resF]]
    rfl
  · show SlOf 6 RSp M3 (.slice A1 (List.length ((List.range k.sups.length).map fun i => resS s i (k.sups.getD i ⟨0, 0, 0, 0, 0, 0⟩))) c1) ((List.range k.sups.length).map fun i => resS s i (k.sups.getD i ⟨0, 0, 0, 0, 0, 0⟩))
    rw [hss]
    exact i1.mono RSp.mono (hm2.trans hm3)
  · show SlOf 6 RRq M3 (.slice A2 (List.length ((List.range k.reqs.length).map fun i => resR s i (k.reqs.getD i ⟨0, 0, 0, 0, 0, 0⟩))) c2) ((List.range k.reqs.length).map fun i => resR s i (k.reqs.getD i ⟨0, 0, 0, 0, 0, 0⟩))
    rw [hrs]
    exact i2.mono RRq.mono hm3
  · exact ht
end Go.Proofs.Ytgnipfjjkliibaa

/-
  Honour: attempt, Do.
  Conditions: none.
-/
namespace Go.Proofs.Ytgnipfjjkliibaa
open Go Bf
attribute [local irreducible] Tr Exec Stab HasTy Go.Addr.add IntKind.wrap
def refDone : List PanicEntry := [{ v := .iface 31 (.int .i64 330), recovered := true }]
set_option maxHeartbeats 1000000 in
theorem att_panic (M : Mem) (b2 : Nat) (e0 : Value) :
    CD Try.prog 46 [.pointer (some ⟨b2, 0, none⟩)] (.panicking refCh) M [box b2 31 [e0]]
      (fun u' M' A' => u' = .panicking refDone ∧ M = M' ∧ A' = [box b2 31 [.int .i64 330]]) := by
  refine CD.intro1 Try.func46 rfl rfl Try.ntmps46 rfl rfl (v := .iface 31 (.int .i64 330)) (.inl ⟨[], rfl, rfl⟩) fun E F => ?_
  (repeat (first | ((with_reducible refine Tr.step rfl ?_); (first | (refine xmQ (z := ?_)) | (refine xaQ (z := ?_)) | ((with_reducible refine Knd.binOp ?_); (refine Exec.stab rfl (Stab.ifaceeq rfl (tysOk.get rfl) rfl) rfl ?_)) | (refine xSQ (z := ?_)) | ((with_reducible refine Knd.typeAssert ?_); (refine Exec.stab rfl (Stab.assertY rfl (tysOk.get rfl) rfl) rfl ?_)) | ((with_reducible refine Knd.extract ?_); (refine Exec.stab rfl (Stab.extract rfl rfl) rfl ?_)))) | (with_reducible first | apply Tr.next | apply Tr.seq | apply Tr.region | apply Tr.nil | apply Tr.block | apply Tr.in_normal) | (refine Tr.cond_bt rfl (by (with_reducible rfl)) ?_) | (refine Tr.cond_bf rfl (by (with_reducible rfl)) ?_)))
  refine Tr.doneC (by first | exact .inl rfl | exact .inr rfl) rfl (by repeat (exact RVs.nil)) (Mem.le.refl _) DropL.refl ⟨rfl, rfl, rfl⟩
set_option maxHeartbeats 1000000 in
theorem att_idle (M : Mem) (b2 : Nat) (A : List Res) :
    CD Try.prog 46 [.pointer (some ⟨b2, 0, none⟩)] .returning M A
      (fun u' M' A' => u' = .returning ∧ M = M' ∧ A' = A) := by
  refine CD.intro1 Try.func46 rfl rfl Try.ntmps46 rfl rfl (v := .nilIface) (.inr ⟨rfl, rfl, rfl⟩) fun E F => ?_
  (repeat (first | ((with_reducible refine Tr.step rfl ?_); (first | (refine xaQ (z := ?_)) | ((with_reducible refine Knd.binOp ?_); (refine Exec.stab rfl (Stab.nileq rfl (tysOk.get rfl) rfl) rfl ?_)))) | (with_reducible first | apply Tr.next | apply Tr.seq | apply Tr.region | apply Tr.nil | apply Tr.block | apply Tr.in_normal) | (refine Tr.cond_bt rfl (by (with_reducible rfl)) ?_)))
  refine Tr.doneC (by first | exact .inl rfl | exact .inr rfl) rfl (by repeat (exact RVs.nil)) (Mem.le.refl _) DropL.refl ⟨rfl, rfl, rfl⟩
set_option maxHeartbeats 2000000 in
theorem attempt_fn (M : Mem) (g : FuncId) (cap : List Value) (A : List Res) (R : Value → Mem → List Res → Prop) (RP : List PanicEntry → Mem → List Res → Prop) (hg : FnP Try.prog g cap M A R RP) (hch : ∀ ch M' A', RP ch M' A' → ch = refCh) :
    Bf.Fn Try.prog 24 [.func (.func g) #[] cap.toArray] M A (fun r M' A' => (r = .int .i64 0 ∧ ∃ v, R v M' A') ∨ (r = .int .i64 330 ∧ RP refCh M' A')) := by
  refine Fn.introD Try.func24 rfl rfl Try.ntmps24 rfl fun E F => ?_
  (repeat (first | ((with_reducible refine Tr.step rfl ?_); (first | ((with_reducible refine Knd.makeFunc ?_); (refine Exec.stab rfl (Stab.makeFunc rfl rfl) rfl ?_)) | ((with_reducible refine Knd.alloc ?_); (refine Exec.alloc1 (tysOk.get rfl) rfl rfl rfl (fun b => ?_))))) | (with_reducible first | apply Tr.next | apply Tr.seq | apply Tr.region | apply Tr.nil)))
  refine Tr.step rfl ?_
  refine Exec.defer (first := []) (vs := []) rfl rfl ?_
  (repeat (first | ((with_reducible refine Tr.step rfl ?_); (with_reducible refine Knd.move ?_); (refine xmQ (z := ?_))) | (with_reducible first | apply Tr.next | apply Tr.seq | apply Tr.region | apply Tr.nil)))
  ((refine Tr.step rfl ?_))
  refine Exec.callPv (first := []) (cap := cap) (vs := []) (A := A) (F := box b 31 [.int .i64 0] :: F) rfl rfl (by simpa using hg) List.perm_middle rfl (fun v M' A' hm hR => ?_) (fun ch M' A' hm hR => ?_)
  rotate_left
  · obtain rfl := hch _ _ _ hR
    (repeat ((with_reducible refine Tr.then_panic ?_)))
    refine Tr.panicD (vs0 := []) (cap := [.pointer (some ⟨b, 0, none⟩)]) (A := [box b 31 [.int .i64 0]]) (F1 := A' ++ F) (att_panic M' b _) (show (box b 31 [.int .i64 0] :: (A' ++ F)).Perm (A' ++ box b 31 [.int .i64 0] :: F) from List.perm_middle.symm) rfl ?_
    rintro u' M'' A'' hm' ⟨rfl, rfl, rfl⟩
    exact ⟨rfl, _, (by repeat (first | exact RVs.nil | (apply RVs.cons; (exact RV.cell (by rfl) (tysOk.get (by rfl)) (by rfl) (by repeat (first | exact Has.here | apply Has.there)))))), hm, [box b 31 [.int .i64 330]], A', List.Perm.refl _, .inr ⟨rfl, hR⟩⟩
  refine Tr.reorder List.perm_middle.symm ?_
  (repeat (first | ((with_reducible refine Tr.step rfl ?_); (with_reducible refine Knd.store ?_); (refine xSQ (z := ?_))) | (with_reducible first | apply Tr.next | apply Tr.seq | apply Tr.region | apply Tr.nil | apply Tr.ret)))
  refine Tr.doneD (vs0 := []) (cap := [.pointer (some ⟨b, 0, none⟩)]) (A := []) (by first | exact .inl rfl | exact .inr rfl) (att_idle M' b []) (List.Perm.refl _) rfl ?_
  rintro u' M'' A'' hm' ⟨rfl, rfl, rfl⟩
  exact ⟨rfl, _, (by repeat (first | exact RVs.nil | (apply RVs.cons; (exact RV.cell (by rfl) (tysOk.get (by rfl)) (by rfl) (by repeat (first | exact Has.here | apply Has.there)))))), hm, [box b 31 [.int .i64 0]], A', List.Perm.refl _, .inl ⟨rfl, v, hR⟩⟩
theorem RBk.open5 {M : Mem} {v : Value} {k : Bk} (h : RBk M v k) : ∃ v1 v2 v3 v4 v5, v = .agg #[v1, v2, v3, v4, v5] ∧ v1.oneCell' = true ∧ v2.oneCell' = true ∧ v3.oneCell' = true ∧ v4.oneCell' = true ∧ v5.oneCell' = true := by
  obtain ⟨As, cs, Ar, cr, Af, cf, Ad, cd, rfl, h1, h2, h3⟩ := h
  exact ⟨_, _, _, _, _, rfl, rfl, rfl, rfl, rfl, rfl⟩
theorem RBk.one5 {M : Mem} {v1 v2 v3 v4 v5 : Value} {k : Bk} (h : RBk M (.agg #[v1, v2, v3, v4, v5]) k) : v1.oneCell' = true ∧ v2.oneCell' = true ∧ v3.oneCell' = true ∧ v4.oneCell' = true ∧ v5.oneCell' = true := by
  obtain ⟨w1, w2, w3, w4, w5, e, o⟩ := h.open5
  injection e with e
  simp only [Array.mk.injEq, List.cons.injEq, and_true] at e
  obtain ⟨rfl, rfl, rfl, rfl, rfl⟩ := e
  exact o
set_option maxHeartbeats 4000000 in
theorem do1_fn (M : Mem) (k : Bk) (v1 v2 v3 v4 v5 : Value) (h : RBk M (.agg #[v1, v2, v3, v4, v5]) k) (A : Option Addr) (c : Nat) (l : List Hp) (hl : SlOf 5 RHp M (.slice A l.length c) l) (b2 b3 b4 : Nat) (z1 z2 z3 z4 z5 : Value) :
    FnP Try.prog 25 [.pointer (some ⟨b2, 0, none⟩), .pointer (some ⟨b3, 0, none⟩), .pointer (some ⟨b4, 0, none⟩)] M [box b2 27 [v1, v2, v3, v4, v5], box b3 28 [.slice A l.length c], box b4 27 [z1, z2, z3, z4, z5]]
      (fun _ M' A' => ∃ s u1 u2 u3 u4 u5, runF k l = some s ∧ RBk M' (.agg #[u1, u2, u3, u4, u5]) (resF k s) ∧ A' = [box b4 27 [u1, u2, u3, u4, u5]])
      (fun ch _ A' => ch = refCh ∧ runF k l = none ∧ A' = [box b4 27 [z1, z2, z3, z4, z5]]) := by
  refine FnP.intro Try.func25 rfl rfl Try.ntmps25 rfl fun E F => ?_
  (skip)
  (((apply Tr.draw); (kernel_rfl)); (refine tkQ 0 (hB := by exact fun _ h => h) (s := by exact swQ) (h := ?_)); (refine tkQ 1 (s := by exact swQ) (h := ?_)); (refine tkQ 2 (s := by exact slQ) (h := ?_)); (refine TrA.eff 3 rfl (by kernel_rfl) (by exact .inl rfl) ?_))
  refine Exec.callP rfl (run_fn M _ k h A c l hl) (List.Perm.refl _) rfl (fun v M' A' hm hR => ?_) (fun ch M' A' hm hR => ?_)
  rotate_left
  · obtain ⟨rfl, rfl, hn⟩ := hR
    (skip)
    exact Tr.doneP (A' := [box b4 27 [z1, z2, z3, z4, z5]]) hm (DropL.skip (DropL.skip DropL.refl)) ⟨rfl, hn, rfl⟩
  obtain ⟨rfl, s, hs, hS⟩ := hR
  refine ⟨hm, (by exact fun _ h => h), ?_⟩
  obtain ⟨hfb, hfit, -⟩ := run_keep hs
  obtain ⟨e1, e2, e3, e4⟩ := run_len hs
  ((refine TrA.eff 4 rfl (by kernel_rfl) (by exact .inl rfl) ?_))
  refine Exec.call0 rfl (result_fn M' _ _ k s (h.mono hm) hS hfit e1 e2) rfl ?_
  rintro w M2 hm2 hB
  refine ⟨hm2, (by exact fun _ h => h), ?_⟩
  obtain ⟨u1, u2, u3, u4, u5, rfl, o1, o2, o3, o4, o5⟩ := hB.open5
  ((refine TrA.effD 5 rfl (by kernel_rfl) (by kernel_rfl) (by exact .inl rfl) ?_); (((refine Knd.store ?_); ((refine xWQ (z := ?_))))); (refine ⟨_, fun _ h => h, ?_⟩); (refine TrA.done (by kernel_rfl) ?_))
  (skip)
  refine Tr.ofPost ?_
  refine Tr.doneB (A' := [box b4 27 [u1, u2, u3, u4, u5]]) [_, _] (by first | exact .inl rfl | exact .inr rfl) rfl (by repeat (exact RVs.nil)) (hm.trans hm2) (List.Perm.refl _) ⟨s, u1, u2, u3, u4, u5, hs, hB, rfl⟩
/-- what Do answers -/
noncomputable def doF (k : Bk) (l : List Hp) : Bk × Int := match runF k l with
  | some s => (resF k s, 0)
  | none => (zB, 330)
theorem RBk.zero (M : Mem) : RBk M (.agg #[.int .i64 0, .slice none 0 0, .slice none 0 0, .slice none 0 0, .slice none 0 0]) zB :=
  ⟨none, 0, none, 0, none, 0, none, 0, rfl, SlOf.nil _ _ _, SlOf.nil _ _ _, SlOf.nil _ _ _⟩
theorem rev3 {α : Type} (a b c : α) (F : List α) : ([c, b, a] ++ F).Perm (a :: b :: c :: F) := (List.reverse_perm [a, b, c]).append_right F
set_option maxHeartbeats 4000000 in
theorem do_fn (M : Mem) (v : Value) (k : Bk) (h : RBk M v k) (A : Option Addr) (c : Nat) (l : List Hp) (hl : SlOf 5 RHp M (.slice A l.length c) l) :
    Fn0 Try.prog 11 [v, .slice A l.length c] M (fun r M' => ∃ w, r = .tuple #[w, .int .i64 (doF k l).2] ∧ RBk M' w (doF k l).1) := by
  obtain ⟨v1, v2, v3, v4, v5, rfl, o1, o2, o3, o4, o5⟩ := h.open5
  refine Fn.intro Try.func11 rfl rfl Try.ntmps11 rfl fun E F => ?_
  (repeat (first | ((with_reducible refine Tr.step rfl ?_); (first | (refine xaQ (z := ?_)) | ((with_reducible refine Knd.makeFunc ?_); (refine Exec.stab rfl (Stab.makeFunc rfl rfl) rfl ?_)) | ((with_reducible refine Knd.box ?_); (first | (refine Exec.box rfl rfl (fun b => ?_)) | (refine Exec.box1 rfl (by first | rfl | assumption) rfl (fun b => ?_)))) | ((with_reducible refine Knd.alloc ?_); (refine Exec.alloc (tysOk.get rfl) rfl rfl (fun b => ?_))))) | (with_reducible first | apply Tr.next | apply Tr.seq | apply Tr.region | apply Tr.nil)))
  generalize b = b4
  rename_i b2 b3
  ((refine Tr.step rfl ?_))
  refine Exec.call (A := [box b2 27 [v1, v2, v3, v4, v5], box b3 28 [.slice A l.length c], box b4 27 [.int .i64 0, .slice none 0 0, .slice none 0 0, .slice none 0 0, .slice none 0 0]]) rfl (attempt_fn M 25 [.pointer (some ⟨b2, 0, none⟩), .pointer (some ⟨b3, 0, none⟩), .pointer (some ⟨b4, 0, none⟩)] _ _ _ (do1_fn M k v1 v2 v3 v4 v5 h A c l hl b2 b3 b4 _ _ _ _ _) (fun ch M' A' h => h.1)) (rev3 _ _ _ _) rfl ?_
  rintro r M' A' hm (⟨rfl, -, s, u1, u2, u3, u4, u5, hs, hB, rfl⟩ | ⟨rfl, -, hn, rfl⟩)
  · simp only [List.cons_append, List.nil_append]
    obtain ⟨p1, p2, p3, p4, p5⟩ := hB.one5
    (repeat (first | ((with_reducible refine Tr.step rfl ?_); (first | (refine xmQ (z := ?_)) | (refine xaQ (z := ?_)) | (refine xwQ (z := ?_)) | (refine xWQ (z := ?_)))) | (with_reducible first | apply Tr.next | apply Tr.seq | apply Tr.region | apply Tr.nil | apply Tr.ret)))
    (refine Tr.done (by first | exact .inl rfl | exact .inr rfl) rfl (by repeat (first | exact RVs.nil | (apply RVs.cons; (first | exact RV.tmp rfl | exact RV.cellW (by rfl) (tysOk.get (by rfl)) (by rfl) (by repeat (first | exact Has.here | apply Has.there)) (by first | rfl | assumption))))) (by first | exact Mem.le.refl _ | assumption) (by exact ⟨[_], rfl⟩) ⟨rfl, ?_⟩)
    rw [doF, hs]
    exact ⟨_, rfl, hB⟩
  · simp only [List.cons_append, List.nil_append]
    (repeat (first | ((with_reducible refine Tr.step rfl ?_); (first | (refine xmQ (z := ?_)) | (refine xaQ (z := ?_)) | (refine xwQ (z := ?_)) | (refine xWQ (z := ?_)))) | (with_reducible first | apply Tr.next | apply Tr.seq | apply Tr.region | apply Tr.nil | apply Tr.ret)))
    (refine Tr.done (by first | exact .inl rfl | exact .inr rfl) rfl (by repeat (first | exact RVs.nil | (apply RVs.cons; (first | exact RV.tmp rfl | exact RV.cellW (by rfl) (tysOk.get (by rfl)) (by rfl) (by repeat (first | exact Has.here | apply Has.there)) (by first | rfl | assumption))))) (by first | exact Mem.le.refl _ | assumption) (by exact ⟨[_], rfl⟩) ⟨rfl, ?_⟩)
    rw [doF, hn]
    exact ⟨_, rfl, RBk.zero _⟩
end Go.Proofs.Ytgnipfjjkliibaa

/-
  Honour: an element deleted, an element sought.
  Conditions: none.
-/
namespace Go.Proofs.Ytgnipfjjkliibaa
open Go Bf
attribute [local irreducible] Tr Exec Stab HasTy Go.Addr.add IntKind.wrap
theorem erase_cells {cur : List Value} {l : List Int} {i : Nat} (hi : i < l.length) (hc : cur.take l.length = intV l) : (cur.take i ++ (cur.drop (i + 1)).take (l.length - (i + 1)) ++ cur.drop (l.length - 1)).take (l.length - 1) = intV (l.eraseIdx i) ∧ (cur.take i ++ (cur.drop (i + 1)).take (l.length - (i + 1)) ++ cur.drop (l.length - 1)).length = cur.length := by
  have hlen : l.length ≤ cur.length := by
    have := congrArg List.length hc
    rw [List.length_take, intV_length] at this
    omega
  have h1 : (cur.take i ++ (cur.drop (i + 1)).take (l.length - (i + 1))).length = l.length - 1 := by
    rw [List.length_append, List.length_take, List.length_take, List.length_drop]; omega
  refine ⟨?_, ?_⟩
  · rw [List.take_append_of_le_length (by omega), List.take_of_length_le (by omega)]
    have e1 : cur.take i = (intV l).take i := by rw [← hc, List.take_take, Nat.min_eq_left (by omega)]
    have e2 : (cur.drop (i + 1)).take (l.length - (i + 1)) = (intV l).drop (i + 1) := by rw [← hc, List.drop_take]
    rw [e1, e2, List.eraseIdx_eq_take_drop_succ]
    simp [intV]
  · rw [List.length_append, h1, List.length_drop]; omega
set_option maxHeartbeats 4000000 in
theorem delete_own (M : Mem) (A : Option Addr) (c : Nat) (l : List Int) (i : Nat) (hi : i < l.length) (hl : l.length ≤ 1000000) (hc : c ≤ 9223372036854775807) :
    Bf.Fn Try.prog 56 [.slice A l.length c, .int .i64 (i : Int), .int .i64 ((i : Int) + 1)] M [ownS 3 1 A l.length c (intV l)] (fun r M' A' => M = M' ∧ r = .slice A (l.length - 1) c ∧ A' = [ownS 3 1 A (l.length - 1) c (intV (l.eraseIdx i))]) := by
  refine Fn.intro Try.func56 rfl rfl Try.ntmps56 rfl fun E F => ?_
  refine Tr.own_open Del.here (by omega) (fun g cur hA hlc hcl hct => ?_)
  subst hA
  rw [Nat.mul_one] at hcl hct
  have hlen : l.length ≤ cur.length := by omega
  (repeat (first | ((with_reducible refine Tr.step rfl ?_); (first | (refine xmQ (z := ?_)) | (refine xaQ (z := ?_)) | (refine xnQ (z := ?_)) | (refine xiQ (z := ?_)) | ((with_reducible refine Knd.slice ?_); (refine Exec.stab rfl (Stab.slice_lhm rfl rfl rfl rfl (tysOk.get rfl) rfl (tysOk.get rfl) rfl (by omega) (by omega) (by omega) (by omega)) rfl ?_)))) | (with_reducible first | apply Tr.next | apply Tr.seq | apply Tr.region | apply Tr.nil | apply Tr.skip) | (refine Tr.cond_f rfl (by omega) ?_)))
  have hcell := erase_cells hi hct
  have hone : ∀ u ∈ (cur.drop (i + 1)).take (l.length - (i + 1)), u.oneCell' = true := fun u hu => by
    rw [← List.drop_take, hct] at hu
    exact intV_one l u (List.mem_of_mem_drop hu)
  have e1 : ((i : Int)).toNat = i := Int.toNat_natCast i
  have e2 : ((i : Int) + 1).toNat = i + 1 := by omega
  have e3 : i + (l.length - (i + 1)) = l.length - 1 := by omega
  (((apply Tr.draw); (kernel_rfl)); (refine tkQ 0 (hB := by exact fun _ h => h) (s := by exact Stab.move rfl) (h := ?_)); (refine tkQ 1 (s := by exact Stab.move rfl) (h := ?_)); (refine tkQ 3 (s := by exact Stab.move rfl) (h := ?_)); (refine tkQ 4 (s := by exact Stab.move rfl) (h := ?_)); (refine tkQ 2 (s := by exact Stab.slice_h rfl rfl (tysOk.get rfl) rfl (tysOk.get rfl) (by omega) (by omega)) (h := ?_)); (refine tkQ 5 (s := by exact Stab.slice_l rfl rfl (tysOk.get rfl) rfl (tysOk.get rfl) rfl (by omega) (by omega)) (h := ?_)); (refine TrA.effD 6 rfl (by kernel_rfl) (by kernel_rfl) (by exact .inl rfl) ?_))
  refine Exec.appendIn (j := i + 1) rfl rfl (by (rw [e2]); split; (exact ⟨_, rfl, .inl (by omega)⟩); (exact ⟨_, rfl, .inr (by simp [Addr.add])⟩)) (tysOk.get rfl) rfl (tysOk.get rfl) rfl (by omega) (by omega) (by omega) (by rw [e2]; exact hone) Upd.here rfl ?_
  refine ⟨_, fun _ h => h, ?_⟩
  rw [e1, e2, e3]
  obtain ⟨hc1, hc2⟩ := hcell
  generalize cur.take i ++ (cur.drop (i + 1)).take (l.length - (i + 1)) ++ cur.drop (l.length - 1) = cur2 at hc1 hc2
  clear hct hone
  ((refine tkQ 7 (s := by exact Stab.assign rfl) (h := ?_)); (refine TrA.done (by kernel_rfl) ?_))
  (repeat (first | ((with_reducible refine Tr.step rfl ?_); (first | (refine xmQ (z := ?_)) | (refine xnQ (z := ?_)) | ((with_reducible refine Knd.slice ?_); (refine Exec.stab rfl (Stab.slice_lh rfl rfl rfl (tysOk.get rfl) rfl (tysOk.get rfl) rfl (by omega) (by omega) (by omega)) rfl ?_)))) | (with_reducible first | apply Tr.next | apply Tr.seq | apply Tr.region)))
  have e4 : (((l.length - 1 : Nat) : Int)).toNat = l.length - 1 := Int.toNat_natCast _
  have e5 : ((l.length : Int)).toNat = l.length := Int.toNat_natCast _
  rw [e4, e5]
  ((refine Tr.step rfl ?_))
  refine Exec.clearAt (o := l.length - 1) (m := 1) (cs := cur2) (z := .int .i64 0) (c := c - (l.length - 1)) (by
    rw [if_neg (by omega), show l.length - (l.length - 1) = 1 by omega]
    simp [ev, look_cons_eq, Addr.add]; omega) (tysOk.get rfl) rfl (tysOk.get rfl) rfl rfl rfl Upd.here (by omega) (by omega) ?_
  have hc3 : (cur2.take (l.length - 1) ++ List.replicate 1 (Value.int .i64 0) ++ cur2.drop (l.length - 1 + 1)).take ((l.length - 1) * 1) = intV (l.eraseIdx i) := by
    rw [Nat.mul_one, List.append_assoc, List.take_append_of_le_length (by rw [List.length_take]; omega), List.take_of_length_le (by rw [List.length_take]; omega)]
    exact hc1
  have hc4 : (cur2.take (l.length - 1) ++ List.replicate 1 (Value.int .i64 0) ++ cur2.drop (l.length - 1 + 1)).length = c * 1 := by
    simp only [List.length_append, List.length_take, List.length_drop, List.length_replicate]; omega
  generalize cur2.take (l.length - 1) ++ List.replicate 1 (Value.int .i64 0) ++ cur2.drop (l.length - 1 + 1) = cur3 at hc3 hc4
  refine Tr.box_ownC 1 (l.length - 1) c Upd.here hc4 (by omega) hc hc3 (intV_one _) ?_
  (repeat (first | ((with_reducible refine Tr.step rfl ?_); (first | (refine xmQ (z := ?_)) | (refine xaQ (z := ?_)))) | (with_reducible first | apply Tr.next | apply Tr.seq | apply Tr.region | apply Tr.nil | apply Tr.ret)))
  refine Tr.doneA (A' := [ownS 3 1 (some ⟨g, 0, none⟩) (l.length - 1) c (intV (l.eraseIdx i))]) (by first | exact .inl rfl | exact .inr rfl) rfl (by repeat (first | exact RVs.nil | (apply RVs.cons; (exact RV.tmp rfl)))) (Mem.le.refl _) ⟨fun _ h => h, fun h => h⟩ ⟨rfl, rfl, rfl⟩
set_option maxHeartbeats 4000000 in
theorem index_fn (M : Mem) (A : Option Addr) (c : Nat) (l : List Int) (x : Int) (h : Ints M (.slice A l.length c) l) :
    Fn0 Try.prog 81 [.slice A l.length c, .int .i64 x] M (fun r M' => (∃ z : Int, r = .int .i64 z ∧ ((0 ≤ z ∧ x ∈ l) ∨ (z = -1 ∧ x ∉ l))) ∧ M = M') := by
  have hll := h.len_le
  refine Fn.intro Try.func81 rfl rfl Try.ntmps81 rfl fun E F => ?_
  (repeat (first | ((with_reducible refine Tr.step rfl ?_); (first | (refine xmQ (z := ?_)) | (refine xaQ (z := ?_)) | (refine xnQ (z := ?_)))) | (with_reducible first | apply Tr.next | apply Tr.seq | apply Tr.region | apply Tr.nil | apply Tr.block)))
  refine Tr.loop (α := Nat) (fun y => ⟨19, [(8, .int .i64 (y : Int)), (7, .int .i64 (l.length : Int)), (6, .slice A l.length c), (4, .int .i64 0), (0, .slice A l.length c), (1, .int .i64 x)], [], M, [] ++ F⟩)
    (fun y => y ≤ l.length ∧ ∀ t u, t < y → l[t]? = some u → u ≠ x) (fun y => l.length - y) 0 ⟨Nat.zero_le _, fun t _ ht => by omega⟩ hsQ (fun i hi => ?_)
  obtain ⟨hi, hall⟩ := hi
  by_cases hlt : i < l.length
  · obtain ⟨u, hu⟩ := get_of_lt hlt
    obtain ⟨hA, hat⟩ := Ints.at h hu
    by_cases e : x = u
    · (repeat (first | ((with_reducible refine Tr.step rfl ?_); (first | (refine xmQ (z := ?_)) | (refine xaQ (z := ?_)) | (refine xMQ (z := ?_)) | (refine xiQ (z := ?_)) | (refine xxQ (z := ?_)))) | (with_reducible first | apply Tr.next | apply Tr.seq | apply Tr.region | apply Tr.nil | apply Tr.skip | apply Tr.block | apply Tr.ret | apply Tr.then_ret | apply Tr.in_ret) | (refine Tr.cond_t rfl (by first | (with_reducible assumption) | omega) ?_)))
      (refine dnQ (hL := by exact ⟨[], rfl⟩) (k := ⟨rfl, ?_⟩))
      exact ⟨⟨(i : Int), rfl, .inl ⟨by omega, e ▸ List.mem_of_getElem? hu⟩⟩, rfl⟩
    · (repeat (first | ((with_reducible refine Tr.step rfl ?_); (first | (refine xmQ (z := ?_)) | (refine xaQ (z := ?_)) | (refine xMQ (z := ?_)) | ((with_reducible refine Knd.binOp ?_); (first | (refine xdQ (z := ?_)) | (refine xiQ (z := ?_)))) | (refine xxQ (z := ?_)))) | (with_reducible first | apply Tr.next | apply Tr.seq | apply Tr.region | apply Tr.nil | apply Tr.skip | apply Tr.block | apply Tr.in_normal) | (refine Tr.cond_t rfl (by first | (with_reducible assumption) | omega) ?_) | (refine Tr.cond_f rfl (by (with_reducible assumption)) ?_)))
      refine Tr.again (i + 1) ⟨by omega, fun t w ht hw => ?_⟩ (by omega) hsQ
      by_cases ht2 : t < i
      · exact hall t w ht2 hw
      · have : t = i := by omega
        subst this
        rw [hu] at hw
        cases hw
        exact fun h => e h.symm
  have ei : i = l.length := by omega
  subst ei
  (repeat (first | ((with_reducible refine Tr.step rfl ?_); (first | (refine xaQ (z := ?_)) | (refine xiQ (z := ?_)))) | (with_reducible first | apply Tr.next | apply Tr.seq | apply Tr.region | apply Tr.nil | apply Tr.exit | apply Tr.ret | apply Tr.then_exit) | ((with_reducible refine Tr.in_exit ?_ ?_); (exact rfl)) | (refine Tr.cond_f rfl (by first | (with_reducible assumption) | omega) ?_)))
  (refine dnQ (hL := by exact ⟨[], rfl⟩) (k := ⟨rfl, ?_⟩))
  refine ⟨⟨-1, rfl, .inr ⟨rfl, fun hm => ?_⟩⟩, rfl⟩
  obtain ⟨t, ht, e⟩ := List.getElem_of_mem hm
  exact hall t _ ht (List.getElem?_eq_getElem ht) e
set_option maxHeartbeats 4000000 in
theorem contains_fn (M : Mem) (A : Option Addr) (c : Nat) (l : List Int) (x : Int) (h : Ints M (.slice A l.length c) l) :
    Fn0 Try.prog 58 [.slice A l.length c, .int .i64 x] M (fun r M' => (∃ b : Bool, r = .bool b ∧ (b = true ↔ x ∈ l)) ∧ M = M') := by
  refine Fn.intro Try.func58 rfl rfl Try.ntmps58 rfl fun E F => ?_
  (repeat (first | ((with_reducible refine Tr.step rfl ?_); (first | (refine xmQ (z := ?_)) | (refine xaQ (z := ?_)))) | (with_reducible first | apply Tr.next | apply Tr.seq | apply Tr.region | apply Tr.nil)))
  ((refine Tr.step rfl ?_)); refine Exec.call0 rfl (index_fn M A c l x h) rfl ?_
  rintro _ _ _ ⟨⟨z, rfl, hz⟩, rfl⟩
  (repeat (first | ((with_reducible refine Tr.step rfl ?_); (first | (refine xaQ (z := ?_)) | (refine xiQ (z := ?_)))) | (with_reducible first | apply Tr.next | apply Tr.nil | apply Tr.ret)))
  (refine dnQ (hL := by exact ⟨[], rfl⟩) (k := ⟨rfl, ?_⟩))
  refine ⟨⟨_, rfl, ?_⟩, rfl⟩
  rw [decide_eq_true_iff]
  rcases hz with ⟨h1, h2⟩ | ⟨h1, h2⟩
  · exact ⟨fun _ => h2, fun _ => h1⟩
  · exact ⟨fun h => by omega, fun h => absurd h h2⟩
end Go.Proofs.Ytgnipfjjkliibaa

/-
  Honour: begin, with what it made handed out.
  Conditions: none.
-/
namespace Go.Proofs.Ytgnipfjjkliibaa
open Go Bf
attribute [local irreducible] Tr Exec Stab HasTy Go.Addr.add IntKind.wrap
theorem perm52 {α : Type} (a b c d e f g : α) (F : List α) : (a :: b :: c :: d :: e :: f :: g :: F).Perm (f :: g :: a :: b :: c :: d :: e :: F) := (List.perm_append_comm (l₁ := [a, b, c, d, e]) (l₂ := [f, g])).append_right F
set_option maxHeartbeats 8000000 in
theorem hbegin_own (M : Mem) (v : Value) (k : Bk) (h : RBk M v k) (hs : k.sups.length ≤ 1000000) (hr : k.reqs.length ≤ 1000000) :
    Bf.Fn Try.prog 34 [v] M [] (fun r M' A' => M = M' ∧ ∃ Af cf A1 c1 A2 c2 A3 c3 A4 c4 A5 c5, r = .agg #[.slice Af k.fits.length cf, .slice A1 k.sups.length c1, .slice A2 k.sups.length c2, .slice A3 k.reqs.length c3, .slice A4 k.reqs.length c4, .slice A5 k.reqs.length c5] ∧
      Fits2 M (.slice Af k.fits.length cf) k.fits ∧ (c1 ≤ 9223372036854775807 ∧ c2 ≤ 9223372036854775807 ∧ c3 ≤ 9223372036854775807 ∧ c4 ≤ 9223372036854775807 ∧ c5 ≤ 9223372036854775807) ∧
      A' = [ownS 3 1 A3 k.reqs.length c3 (intV (beginF k).nd), ownS 3 1 A4 k.reqs.length c4 (intV (fxB k).due), ownS 3 1 A5 k.reqs.length c5 (intV (beginF k).br), ownS 3 1 A1 k.sups.length c1 (intV (beginF k).am), ownS 3 1 A2 k.sups.length c2 (intV (beginF k).dy)]) := by
  obtain ⟨As, cs, Ar, cr, Af, cf, Ad, cd, rfl, h1, h2, h3⟩ := h
  refine Fn.intro Try.func34 rfl rfl Try.ntmps34 rfl fun E F => ?_
  (repeat (first | ((with_reducible refine Tr.step rfl ?_); (first | (refine xmQ (z := ?_)) | (refine xlQ (z := ?_)) | (refine xfQ (z := ?_)) | (refine xnQ (z := ?_)) | (refine xSQ (z := ?_)) | ((with_reducible refine Knd.box ?_); (refine Exec.box rfl rfl (fun b => ?_))) | ((with_reducible refine Knd.alloc ?_); (refine Exec.alloc (tysOk.get rfl) rfl rfl (fun b => ?_))))) | (with_reducible first | apply Tr.next | apply Tr.seq | apply Tr.region | apply Tr.nil | apply Tr.block)))
  rename_i b1
  generalize b = b2
  refine Tr.own_nil 3 1 ?_
  refine Tr.own_nil 3 1 ?_
  refine Tr.loop (α := Nat × (Option Addr × Nat) × (Option Addr × Nat)) (fun y => ⟨60, [(13, .int .i64 (y.1 : Int)), (12, .int .i64 (k.sups.length : Int)), (11, .slice As k.sups.length cs), (2, .pointer (some ⟨b2, 0, none⟩)), (1, .pointer (some ⟨b1, 0, none⟩))], [], M,
      ownS 3 1 y.2.1.1 y.1 y.2.1.2 (intV ((k.sups.take y.1).map (·.amount))) :: ownS 3 1 y.2.2.1 y.1 y.2.2.2 (intV ((k.sups.take y.1).map (·.ready))) :: box b2 64 [.slice Af k.fits.length cf, .slice y.2.1.1 y.1 y.2.1.2, .slice y.2.2.1 y.1 y.2.2.2, .slice none 0 0, .slice none 0 0, .slice none 0 0] :: box b1 27 [.int .i64 k.known, .slice As k.sups.length cs, .slice Ar k.reqs.length cr, .slice Af k.fits.length cf, .slice Ad k.reads cd] :: ([] ++ F)⟩)
    (fun y => y.1 ≤ k.sups.length ∧ y.2.1.2 ≤ 9223372036854775807 ∧ y.2.2.2 ≤ 9223372036854775807) (fun y => k.sups.length - y.1) (0, (none, 0), (none, 0)) ⟨Nat.zero_le _, by show (0 : Nat) ≤ _; omega, by show (0 : Nat) ≤ _; omega⟩ hsQ (fun y hy => ?_)
  obtain ⟨i, ⟨A1, c1⟩, ⟨A2, c2⟩⟩ := y
  obtain ⟨hi, hc1, hc2⟩ := hy
  simp only at hi hc1 hc2
  dsimp only
  by_cases hlt : i < k.sups.length
  · obtain ⟨y, hy⟩ := get_of_lt hlt
    obtain ⟨hA, ch, hat, rfl⟩ := h1.elem hy
    have e1 := map_take_succ (·.amount) hy
    have e2 := map_take_succ (·.ready) hy
    (repeat (first | ((with_reducible refine Tr.step rfl ?_); (first | ((with_reducible refine Knd.load ?_); (first | (refine xlQ (z := ?_)) | (refine Exec.stab rfl (Stab.loadMA rfl (tysOk.get rfl) rfl (by assumption) (by first | rfl | assumption)) rfl ?_))) | (refine xfQ (z := ?_)) | (refine xiQ (z := ?_)) | (refine xWQ (z := ?_)) | ((with_reducible refine Knd.alloc ?_); (refine Exec.alloc (tysOk.get rfl) rfl rfl (fun b => ?_))) | (refine xxQ (z := ?_)) | ((with_reducible refine Knd.buildSlice ?_); (refine Exec.buildSlice (tysOk.get rfl) rfl (tysOk.get rfl) rfl rfl rfl rfl rfl (by repeat (first | exact BuildP.nil | ((apply BuildP.one); (rfl); (rfl); (first | rfl | assumption); (repeat (first | exact SetL.z | apply SetL.s))))) rfl (fun b => ?_))))) | (with_reducible first | apply Tr.next | apply Tr.seq | apply Tr.region | apply Tr.nil | apply Tr.skip | apply Tr.block) | (refine Tr.cond_t rfl (by first | (with_reducible assumption) | omega) ?_)))
    rename_i b4
    ((refine Tr.step rfl ?_))
    refine Exec.append (news := [.int .i64 (y.amount)]) rfl rfl (tysOk.get rfl) rfl (tysOk.get rfl) rfl rfl rfl rfl (by repeat (first | exact Del.here | apply Del.there)) (Src.box (by repeat (first | exact Has.here | apply Has.there))) rfl (by intro u hu; simp at hu; subst hu; rfl) (by omega) (by omega) rfl (fun A3 c3 hc3 => ?_)
    refine gvQ (r := box b 3 _) (k := ?_)
    rw [show intV ((k.sups.take i).map (·.amount)) ++ [Value.int .i64 y.amount] = intV ((k.sups.take (i + 1)).map (·.amount)) by rw [e1, intV_append]; rfl]
    (repeat (first | ((with_reducible refine Tr.step rfl ?_); (first | (refine xlQ (z := ?_)) | (refine xfQ (z := ?_)) | (refine xSQ (z := ?_)) | ((with_reducible refine Knd.buildSlice ?_); (refine Exec.buildSlice (tysOk.get rfl) rfl (tysOk.get rfl) rfl rfl rfl rfl rfl (by repeat (first | exact BuildP.nil | ((apply BuildP.one); (rfl); (rfl); (first | rfl | assumption); (repeat (first | exact SetL.z | apply SetL.s))))) rfl (fun b => ?_))))) | (with_reducible first | apply Tr.next | apply Tr.region | apply Tr.nil)))
    ((refine Tr.step rfl ?_))
    refine Exec.append (news := [.int .i64 (y.ready)]) rfl rfl (tysOk.get rfl) rfl (tysOk.get rfl) rfl rfl rfl rfl (by repeat (first | exact Del.here | apply Del.there)) (Src.box (by repeat (first | exact Has.here | apply Has.there))) rfl (by intro u hu; simp at hu; subst hu; rfl) (by omega) (by omega) rfl (fun A4 c4 hc4 => ?_)
    refine gvQ (r := box b 3 _) (k := ?_)
    rw [show intV ((k.sups.take i).map (·.ready)) ++ [Value.int .i64 y.ready] = intV ((k.sups.take (i + 1)).map (·.ready)) by rw [e2, intV_append]; rfl]
    (repeat (first | ((with_reducible refine Tr.step rfl ?_); (first | (refine xmQ (z := ?_)) | (refine xfQ (z := ?_)) | (refine xdQ (z := ?_)) | (refine xSQ (z := ?_)))) | (with_reducible first | apply Tr.next | apply Tr.region | apply Tr.nil | apply Tr.in_normal)))
    refine gvQ (r := box b4 _ _) (k := ?_)
    refine ftQ (r := ownS 3 1 A3 _ _ _) (k := ?_)
    exact Tr.again (i + 1, (A3, c3), (A4, c4)) ⟨by simp only; omega, hc3, hc4⟩ (by simp only; omega) hsQ
  have ei : i = k.sups.length := by omega
  subst ei
  rw [List.take_length]
  (repeat (first | ((with_reducible refine Tr.step rfl ?_); (first | (refine xmQ (z := ?_)) | (refine xlQ (z := ?_)) | (refine xfQ (z := ?_)) | (refine xnQ (z := ?_)) | (refine xiQ (z := ?_)))) | (with_reducible first | apply Tr.next | apply Tr.seq | apply Tr.region | apply Tr.nil | apply Tr.block | apply Tr.exit | apply Tr.then_exit) | ((with_reducible refine Tr.in_exit ?_ ?_); (exact rfl)) | (refine Tr.cond_f rfl (by first | (with_reducible assumption) | omega) ?_)))
  refine Tr.own_nil 3 1 ?_
  refine Tr.own_nil 3 1 ?_
  refine Tr.own_nil 3 1 ?_
  refine Tr.loop (α := Nat × (Option Addr × Nat) × (Option Addr × Nat) × (Option Addr × Nat)) (fun y => ⟨60, [(35, .int .i64 (y.1 : Int)), (34, .int .i64 (k.reqs.length : Int)), (33, .slice Ar k.reqs.length cr), (2, .pointer (some ⟨b2, 0, none⟩)), (1, .pointer (some ⟨b1, 0, none⟩))], [], M,
      ownS 3 1 y.2.1.1 y.1 y.2.1.2 (intV ((k.reqs.take y.1).map (·.amount))) :: ownS 3 1 y.2.2.1.1 y.1 y.2.2.1.2 (intV ((k.reqs.take y.1).map (·.due))) :: ownS 3 1 y.2.2.2.1 y.1 y.2.2.2.2 (intV ((k.reqs.take y.1).map fun _ => -1)) :: ownS 3 1 A1 k.sups.length c1 (intV (k.sups.map (·.amount))) :: ownS 3 1 A2 k.sups.length c2 (intV (k.sups.map (·.ready))) :: box b2 64 [.slice Af k.fits.length cf, .slice A1 k.sups.length c1, .slice A2 k.sups.length c2, .slice y.2.1.1 y.1 y.2.1.2, .slice y.2.2.1.1 y.1 y.2.2.1.2, .slice y.2.2.2.1 y.1 y.2.2.2.2] :: box b1 27 [.int .i64 k.known, .slice As k.sups.length cs, .slice Ar k.reqs.length cr, .slice Af k.fits.length cf, .slice Ad k.reads cd] :: ([] ++ F)⟩)
    (fun y => y.1 ≤ k.reqs.length ∧ y.2.1.2 ≤ 9223372036854775807 ∧ y.2.2.1.2 ≤ 9223372036854775807 ∧ y.2.2.2.2 ≤ 9223372036854775807) (fun y => k.reqs.length - y.1) (0, (none, 0), (none, 0), (none, 0)) ⟨Nat.zero_le _, by show (0 : Nat) ≤ _; omega, by show (0 : Nat) ≤ _; omega, by show (0 : Nat) ≤ _; omega⟩ hsQ (fun y hy => ?_)
  obtain ⟨i, ⟨A3, c3⟩, ⟨A4, c4⟩, ⟨A5, c5⟩⟩ := y
  obtain ⟨hi, hc3, hc4, hc5⟩ := hy
  simp only at hi hc3 hc4 hc5
  dsimp only
  by_cases hlt2 : i < k.reqs.length
  · obtain ⟨y, hy⟩ := get_of_lt hlt2
    obtain ⟨hA, ch, hat, rfl⟩ := h2.elem hy
    have e1 := map_take_succ (·.amount) hy
    have e2 := map_take_succ (·.due) hy
    have e3 := map_take_succ (fun _ : Rq => (-1 : Int)) hy
    (repeat (first | ((with_reducible refine Tr.step rfl ?_); (first | ((with_reducible refine Knd.load ?_); (first | (refine xlQ (z := ?_)) | (refine Exec.stab rfl (Stab.loadMA rfl (tysOk.get rfl) rfl (by assumption) (by first | rfl | assumption)) rfl ?_))) | (refine xfQ (z := ?_)) | (refine xiQ (z := ?_)) | (refine xWQ (z := ?_)) | ((with_reducible refine Knd.alloc ?_); (refine Exec.alloc (tysOk.get rfl) rfl rfl (fun b => ?_))) | (refine xxQ (z := ?_)) | ((with_reducible refine Knd.buildSlice ?_); (refine Exec.buildSlice (tysOk.get rfl) rfl (tysOk.get rfl) rfl rfl rfl rfl rfl (by repeat (first | exact BuildP.nil | ((apply BuildP.one); (rfl); (rfl); (first | rfl | assumption); (repeat (first | exact SetL.z | apply SetL.s))))) rfl (fun b => ?_))))) | (with_reducible first | apply Tr.next | apply Tr.seq | apply Tr.region | apply Tr.nil | apply Tr.skip | apply Tr.block) | (refine Tr.cond_t rfl (by first | (with_reducible assumption) | omega) ?_)))
    rename_i b4
    ((refine Tr.step rfl ?_))
    refine Exec.append (news := [.int .i64 (y.amount)]) rfl rfl (tysOk.get rfl) rfl (tysOk.get rfl) rfl rfl rfl rfl (by repeat (first | exact Del.here | apply Del.there)) (Src.box (by repeat (first | exact Has.here | apply Has.there))) rfl (by intro u hu; simp at hu; subst hu; rfl) (by omega) (by omega) rfl (fun A6 c6 hc6 => ?_)
    refine gvQ (r := box b 3 _) (k := ?_)
    rw [show intV ((k.reqs.take i).map (·.amount)) ++ [Value.int .i64 y.amount] = intV ((k.reqs.take (i + 1)).map (·.amount)) by rw [e1, intV_append]; rfl]
    (repeat (first | ((with_reducible refine Tr.step rfl ?_); (first | (refine xlQ (z := ?_)) | (refine xfQ (z := ?_)) | (refine xSQ (z := ?_)) | ((with_reducible refine Knd.buildSlice ?_); (refine Exec.buildSlice (tysOk.get rfl) rfl (tysOk.get rfl) rfl rfl rfl rfl rfl (by repeat (first | exact BuildP.nil | ((apply BuildP.one); (rfl); (rfl); (first | rfl | assumption); (repeat (first | exact SetL.z | apply SetL.s))))) rfl (fun b => ?_))))) | (with_reducible first | apply Tr.next | apply Tr.seq | apply Tr.region | apply Tr.nil)))
    ((refine Tr.step rfl ?_))
    refine Exec.append (news := [.int .i64 (y.due)]) rfl rfl (tysOk.get rfl) rfl (tysOk.get rfl) rfl rfl rfl rfl (by repeat (first | exact Del.here | apply Del.there)) (Src.box (by repeat (first | exact Has.here | apply Has.there))) rfl (by intro u hu; simp at hu; subst hu; rfl) (by omega) (by omega) rfl (fun A7 c7 hc7 => ?_)
    refine gvQ (r := box b 3 _) (k := ?_)
    rw [show intV ((k.reqs.take i).map (·.due)) ++ [Value.int .i64 y.due] = intV ((k.reqs.take (i + 1)).map (·.due)) by rw [e2, intV_append]; rfl]
    (repeat (first | ((with_reducible refine Tr.step rfl ?_); (first | (refine xlQ (z := ?_)) | (refine xfQ (z := ?_)) | (refine xSQ (z := ?_)) | ((with_reducible refine Knd.buildSlice ?_); (refine Exec.buildSlice (tysOk.get rfl) rfl (tysOk.get rfl) rfl rfl rfl rfl rfl (by repeat (first | exact BuildP.nil | ((apply BuildP.one); (rfl); (rfl); (first | rfl | assumption); (repeat (first | exact SetL.z | apply SetL.s))))) rfl (fun b => ?_))))) | (with_reducible first | apply Tr.next | apply Tr.region | apply Tr.nil)))
    ((refine Tr.step rfl ?_))
    refine Exec.append (news := [.int .i64 (-1)]) rfl rfl (tysOk.get rfl) rfl (tysOk.get rfl) rfl rfl rfl rfl (by repeat (first | exact Del.here | apply Del.there)) (Src.box (by repeat (first | exact Has.here | apply Has.there))) rfl (by intro u hu; simp at hu; subst hu; rfl) (by omega) (by omega) rfl (fun A8 c8 hc8 => ?_)
    refine gvQ (r := box b 3 _) (k := ?_)
    rw [show intV ((k.reqs.take i).map fun _ => -1) ++ [Value.int .i64 (-1)] = intV ((k.reqs.take (i + 1)).map fun _ => -1) by rw [e3, intV_append]; rfl]
    (repeat (first | ((with_reducible refine Tr.step rfl ?_); (first | (refine xmQ (z := ?_)) | (refine xfQ (z := ?_)) | (refine xdQ (z := ?_)) | (refine xSQ (z := ?_)))) | (with_reducible first | apply Tr.next | apply Tr.region | apply Tr.nil | apply Tr.in_normal)))
    refine gvQ (r := box b4 _ _) (k := ?_)
    refine ftQ (r := ownS 3 1 A7 _ _ _) (k := ?_)
    refine ftQ (r := ownS 3 1 A6 _ _ _) (k := ?_)
    exact Tr.again (i + 1, (A6, c6), (A7, c7), (A8, c8)) ⟨by simp only; omega, hc6, hc7, hc8⟩ (by simp only; omega) hsQ
  have ei : i = k.reqs.length := by omega
  subst ei
  rw [List.take_length]
  (repeat (first | ((with_reducible refine Tr.step rfl ?_); (first | (refine xwQ (z := ?_)) | (refine xiQ (z := ?_)) | (refine xWQ (z := ?_)))) | (with_reducible first | apply Tr.next | apply Tr.seq | apply Tr.region | apply Tr.nil | apply Tr.exit | apply Tr.ret | apply Tr.then_exit) | ((with_reducible refine Tr.in_exit ?_ ?_); (exact rfl)) | (refine Tr.cond_f rfl (by first | (with_reducible assumption) | omega) ?_)))
  refine Tr.doneB (A' := [ownS 3 1 A3 k.reqs.length c3 (intV (beginF k).nd), ownS 3 1 A4 k.reqs.length c4 (intV (fxB k).due), ownS 3 1 A5 k.reqs.length c5 (intV (beginF k).br), ownS 3 1 A1 k.sups.length c1 (intV (beginF k).am), ownS 3 1 A2 k.sups.length c2 (intV (beginF k).dy)]) [box _ 64 _, box _ 27 _] (by first | exact .inl rfl | exact .inr rfl) rfl (by repeat (first | exact RVs.nil | (apply RVs.cons; (exact RV.cellW (by rfl) (tysOk.get (by rfl)) (by rfl) (by repeat (first | exact Has.here | apply Has.there)) (by first | rfl | assumption))))) (Mem.le.refl _) (perm52 _ _ _ _ _ _ _ _)
    ⟨rfl, Af, cf, A1, c1, A2, c2, A3, c3, A4, c4, A5, c5, rfl, h3, ⟨hc1, hc2, hc3, hc4, hc5⟩, rfl⟩
end Go.Proofs.Ytgnipfjjkliibaa

/-
  Honour: without.
  Conditions: none.
-/
namespace Go.Proofs.Ytgnipfjjkliibaa
open Go Bf
attribute [local irreducible] Tr Exec Stab HasTy Go.Addr.add IntKind.wrap
theorem steps_amt {x : Fx} : ∀ {l : List Hp} {s s' : St} {at_ : Nat}, stepsF x s at_ l = some s' → Fit x s → ∀ h ∈ l, h.kind ≠ 2 → 1 ≤ h.amt ∧ h.amt ≤ 1048576
  | [], s, s', at_, _, _, h, hh, _ => by cases hh
  | y :: l, s, s', at_, e, hf, h, hh, hk => by
    rw [stepsF] at e
    cases hs : stepF x s y at_ with
    | none => rw [hs] at e; cases e
    | some t =>
      rw [hs] at e
      have st := stepF_some.1 hs
      rcases List.mem_cons.1 hh with rfl | hh
      · cases st with
        | lose i k e1 e2 e3 e4 => have := getD_rng hf.amr i; omega
        | late i k => exact absurd k hk
        | ship i j k e1 f1 e2 f2 e3 e4 e5 e6 e7 e8 e9 => have := getD_rng hf.amr i; omega
      · exact steps_amt (l := l) e (st.keep hf).1 h hh hk
theorem run_amt {k : Bk} {l : List Hp} {s : St} (h : runF k l = some s) : ∀ z ∈ l, z.kind ≠ 2 → 1 ≤ z.amt ∧ z.amt ≤ 1048576 := by
  obtain ⟨hv, hs⟩ := run_steps h
  exact steps_amt hs (begin_fit hv.1)
theorem foldl_take {α β : Type} (f : β → α → β) (l : List α) (s : β) {i : Nat} {y : α} (h : l[i]? = some y) : (l.take (i + 1)).foldl f s = f ((l.take i).foldl f s) y := by
  rw [List.take_add_one, h, List.foldl_append]; rfl
theorem map_take1 {α β : Type} (f : α → β) {l : List α} {i : Nat} {y : α} (h : l[i]? = some y) : (l.map f)[i]? = some (f y) := by simp [h]
theorem shipF_at {s : St} {i q : Nat} {a u day amt : Int} (ha : s.am[i]? = some a) (hu : s.nd[q]? = some u) : shipF s ⟨3, (i : Int), (q : Int), day, amt⟩ = { s with am := s.am.set i (a - amt), nd := s.nd.set q (u - amt) } := by
  rw [shipF, if_pos rfl]
  show (⟨s.am.set (i : Int).toNat (s.am.getD (i : Int).toNat 0 - amt), s.dy, s.nd.set (q : Int).toNat (s.nd.getD (q : Int).toNat 0 - amt), s.br⟩ : St) = _
  rw [Int.toNat_natCast, Int.toNat_natCast, getD_of (d := (0 : Int)) ha, getD_of (d := (0 : Int)) hu]
theorem lossF_lose {s : St} {i : Nat} {a req day amt : Int} (ha : s.am[i]? = some a) : lossF s ⟨1, (i : Int), req, day, amt⟩ = { s with am := s.am.set i (a - amt) } := by
  rw [lossF, if_pos rfl]
  show (⟨s.am.set (i : Int).toNat (s.am.getD (i : Int).toNat 0 - amt), s.dy, s.nd, s.br⟩ : St) = _
  rw [Int.toNat_natCast, getD_of (d := (0 : Int)) ha]
theorem lossF_late {s : St} {i : Nat} {d kd req day amt : Int} (hk : kd ≠ 1) (hd : s.dy[i]? = some d) : lossF s ⟨kd, (i : Int), req, day, amt⟩ = { s with dy := s.dy.set i (max d day) } := by
  rw [lossF, if_neg (show ¬ kd = 1 from hk)]
  show (⟨s.am, s.dy.set (i : Int).toNat (max (s.dy.getD (i : Int).toNat 0) day), s.nd, s.br⟩ : St) = _
  rw [Int.toNat_natCast, getD_of (d := (0 : Int)) hd]
/-- numbers that some subtractions cannot bring out of range -/
def Rg (i : Nat) (l : List Int) : Prop := ∀ a ∈ l, -((i : Int) * 1048576) ≤ a ∧ a ≤ 1048576
theorem Rg.set {i : Nat} {l : List Int} (h : Rg i l) {a amt : Int} (ha : a ∈ l) (h1 : 1 ≤ amt ∧ amt ≤ 1048576) (q : Nat) : Rg (i + 1) (l.set q (a - amt)) := fun z hz => by
  have h2 := h a ha
  rcases List.mem_or_eq_of_mem_set hz with hz | rfl
  · have := h z hz; omega
  · omega
theorem Rg.next {i : Nat} {l : List Int} (h : Rg i l) : Rg (i + 1) l := fun z hz => by have := h z hz; omega
theorem brI_next {br : List Int} {n i j : Nat} {a : Int} (hn : br.length = n) (ha : br[i]? = some a) : ((brB br j).take i ++ List.replicate (n - i) (-1 : Int)).set i (if 0 ≤ a ∧ a < (j : Int) then a else -1) = (brB br j).take (i + 1) ++ List.replicate (n - (i + 1)) (-1) := by
  have hi := (List.getElem?_eq_some_iff.1 ha).1
  rw [set_mid _ _ _ _ _ (by rw [List.length_take, brB_length]; omega) (by omega)]
  congr 1
  rw [List.take_add_one]
  congr 1
  simp [brB, ha]
end Go.Proofs.Ytgnipfjjkliibaa

