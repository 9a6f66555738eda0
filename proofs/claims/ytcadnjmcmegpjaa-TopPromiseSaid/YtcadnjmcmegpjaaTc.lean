/-
  Texts of the proof, one after the other.
  Conditions: none.
-/
import Derived.Test.YtcadnjmcmegpjaaTBfMap2
import Derived.Test.YtcadnjmcmegpjaaTBfOwnN
import Derived.Test.YtcadnjmcmegpjaaTBfDel
import Derived.Test.YtcadnjmcmegpjaaTBfSl
import Derived.Test.YtcadnjmcmegpjaaTBfStruct
import Derived.Test.YtcadnjmcmegpjaaTBfDelN
import Derived.Test.YtcadnjmcmegpjaaTXs
import Derived.Test.YtcadnjmcmegpjaaTb
/-
 Honour: the happening that broke a request is among its reasons. Plain.
 Conditions: none.
-/
namespace Go.Proofs.Ytcadnjmcmegpjaa
open Go Bf
theorem run_prefix {b : Bk} {l : List Hp} {s : St} (h : runF b l = some s) (k : Nat) (hk : k ≤ l.length) : ∃ t, runF b (l.take k) = some t ∧ stepsF (fxB b) t k (l.drop k) = some s := by
 unfold runF at h ⊢
 split at h
 ·rename_i hv
  rw [if_pos hv]
  have e := stepsF_append (x := fxB b) (l.take k) (l.drop k) (beginF b) 0
  rw [List.take_append_drop, h] at e
  cases ht : stepsF (fxB b) (beginF b) 0 (l.take k) with
  | none => rw [ht] at e; cases e
  | some t =>
   rw [ht] at e
   refine ⟨t, rfl, ?_⟩
   have e2 : some s = stepsF (fxB b) t (0 + (l.take k).length) (l.drop k) := e
   rw [List.length_take, Nat.min_eq_left hk, Nat.zero_add] at e2
   exact e2.symm
 ·cases h
theorem run_steps {b : Bk} {l : List Hp} {s : St} (h : runF b l = some s) : validB b ∧ stepsF (fxB b) (beginF b) 0 l = some s := by
 unfold runF at h
 split at h
 ·rename_i hv
  exact ⟨hv, h⟩
 ·cases h
theorem begin_br (b : Bk) (q : Nat) (hq : q < b.reqs.length) : (beginF b).br.getD q 0 = -1 := by
 simp [beginF, List.getD_eq_getElem?_getD, hq]
theorem begin_len (b : Bk) : (beginF b).am.length = b.sups.length ∧ (beginF b).nd.length = b.reqs.length ∧ (beginF b).dy.length = b.sups.length ∧ (beginF b).br.length = b.reqs.length := by
 simp [beginF]
theorem run_len {b : Bk} {l : List Hp} {s : St} (h : runF b l = some s) : s.am.length = b.sups.length ∧ s.nd.length = b.reqs.length ∧ s.dy.length = b.sups.length ∧ s.br.length = b.reqs.length := by
 have h1 := begin_len b
 have h2 := (steps_eff (run_steps h).2 (by omega)).2.1
 omega
theorem run_ok {b : Bk} {l : List Hp} {s : St} (h : runF b l = some s) : ∀ z ∈ l, OkH b.sups.length b.reqs.length z := by
 have h1 := begin_len b
 have h2 := (steps_eff (run_steps h).2 (by omega)).2.2
 rwa [h1.1, h1.2.1] at h2
theorem run_brk {b : Bk} {l : List Hp} {s : St} (h : runF b l = some s) {q : Nat} (hq : q < b.reqs.length) : s.br.getD q 0 = -1 ∨ ∃ t, t < l.length ∧ s.br.getD q 0 = (t : Int) ∧ (l.getD t zH).kind ≠ 3 := by
 have h1 := begin_len b
 rcases steps_brk (run_steps h).2 (by omega) q with e | ⟨-, t, e1, e2, e3⟩
 ·rw [begin_br b q hq] at e; exact .inl e
 ·rw [Nat.zero_add] at e2; exact .inr ⟨t, e1, e2, e3⟩
theorem br_prefix {b : Bk} {l : List Hp} {s t : St} {k : Nat} (hk : k ≤ l.length) (ht : runF b (l.take k) = some t) (hs : stepsF (fxB b) t k (l.drop k) = some s) {q : Nat} (hq : q < b.reqs.length) : t.br.getD q 0 = if 0 ≤ s.br.getD q 0 ∧ s.br.getD q 0 < (k : Int) then s.br.getD q 0 else -1 := by
 have hl := run_len ht
 have h1 := run_brk ht hq
 rw [List.length_take, Nat.min_eq_left hk] at h1
 have h2 := steps_brk hs (by omega) q
 rcases h1 with e | ⟨u, e1, e2, -⟩
 ·rcases h2 with f | ⟨f1, v, f2, f3, -⟩
  ·rw [if_neg (by omega)]; exact e
  ·rw [if_neg (by omega)]; exact e
 ·rcases h2 with f | ⟨f1, -⟩
  ·rw [if_pos (by omega)]; exact f.symm
  ·omega
theorem notShip_mem {l : List Hp} {n t : Nat} : t ∈ notShip l n ↔ t < n ∧ (l.getD t zH).kind ≠ 3 := by
 simp [notShip, List.mem_filter]
theorem notShip_sub (l : List Hp) (n : Nat) : (notShip l n).Sublist (List.range n) := List.filter_sublist
theorem notShip_succ {l : List Hp} {n : Nat} (h : (l.getD n zH).kind ≠ 3) : notShip l (n + 1) = notShip l n ++ [n] := by
 rw [notShip, List.range_succ, List.filter_append, notShip]
 congr 1
 rw [List.filter_cons_of_pos (by exact decide_eq_true h)]
 rfl
theorem sub_le {idx : List Nat} {n m : Nat} (h : idx.Sublist (List.range n)) (hnm : n ≤ m) : idx.Sublist (List.range m) := by
 obtain ⟨k, rfl⟩ := Nat.exists_eq_add_of_le hnm
 rw [List.range_add]
 exact h.trans (List.sublist_append_left _ _)
theorem brB_length (br : List Int) (j : Nat) : (brB br j).length = br.length := by simp [brB]
theorem brB_get (br : List Int) (j q : Nat) (h : q < br.length) : (brB br j).getD q 0 = if 0 ≤ br.getD q 0 ∧ br.getD q 0 < (j : Int) then br.getD q 0 else -1 := by
 simp [brB, List.getD_eq_getElem?_getD, h]
theorem with_eff {b : Bk} {l : List Hp} (hok : ∀ z ∈ l, OkH b.sups.length b.reqs.length z) (br : List Int) {j : Nat} (_ : j ≤ l.length) {idx : List Nat} (h3 : ∀ t ∈ idx, t < l.length ∧ (l.getD t zH).kind ≠ 3) :
  (∀ i, (withF b l br j idx).am.getD i 0 = (beginF b).am.getD i 0 - shipA (l.take j) i - lossA (idx.map fun t => l.getD t zH) i ∧ (withF b l br j idx).nd.getD i 0 = (beginF b).nd.getD i 0 - shipN (l.take j) i ∧ (withF b l br j idx).dy.getD i 0 = lateD i ((beginF b).dy.getD i 0) (idx.map fun t => l.getD t zH)) ∧
  (withF b l br j idx).am.length = b.sups.length ∧ (withF b l br j idx).nd.length = b.reqs.length ∧ (withF b l br j idx).dy.length = b.sups.length ∧ (withF b l br j idx).br = brB br j := by
 have hb := begin_len b
 obtain ⟨a1, a2, a3, a4⟩ := ships_eff (l.take j) (beginF b) (fun z hz => by rw [hb.1, hb.2.1]; exact hok z (List.mem_of_mem_take hz))
 generalize hs1 : (l.take j).foldl shipF (beginF b) = s1 at a1 a2 a3 a4
 have hmem : ∀ z ∈ idx.map fun t => l.getD t zH, OkH s1.am.length s1.nd.length z ∧ z.kind ≠ 3 := fun z hz => by
  obtain ⟨t, ht, rfl⟩ := List.mem_map.1 hz
  have := h3 t ht
  refine ⟨?_, this.2⟩
  rw [a3, a4, hb.1, hb.2.1]
  refine hok _ ?_
  rw [List.getD_eq_getElem?_getD, List.getElem?_eq_getElem this.1]
  exact List.getElem_mem _
 obtain ⟨b1, b2, b3, b4⟩ := losses_eff (idx.map fun t => l.getD t zH) s1 (by rw [a2]; omega) hmem
 have hw : withF b l br j idx = { (idx.map fun t => l.getD t zH).foldl lossF s1 with br := brB br j } := by rw [withF, hs1]
 rw [hw]
 refine ⟨fun i => ⟨?_, ?_, ?_⟩, ?_, ?_, ?_, rfl⟩
 ·show (List.foldl lossF s1 _).am.getD i 0 = _
  rw [(b1 i).1, (a1 i).1]
 ·show (List.foldl lossF s1 _).nd.getD i 0 = _
  rw [b2, (a1 i).2]
 ·show (List.foldl lossF s1 _).dy.getD i 0 = _
  rw [(b1 i).2, a2]
 ·show (List.foldl lossF s1 _).am.length = _
  rw [b3, a3]; exact hb.1
 ·show (List.foldl lossF s1 _).nd.length = _
  rw [b2, a4]; exact hb.2.1
 ·show (List.foldl lossF s1 _).dy.length = _
  rw [b4, a2]; exact hb.2.2.1
theorem all_getD {l : List Int} {R : Int → Prop} (h : ∀ i, i < l.length → R (l.getD i 0)) : ∀ a ∈ l, R a := fun a ha => by
 obtain ⟨i, hi, rfl⟩ := List.getElem_of_mem ha
 have := h i hi
 rwa [List.getD_eq_getElem?_getD, List.getElem?_eq_getElem hi] at this
theorem getD_all {l : List Int} {R : Int → Prop} (h : ∀ a ∈ l, R a) {i : Nat} (hi : i < l.length) : R (l.getD i 0) := by
 rw [List.getD_eq_getElem?_getD, List.getElem?_eq_getElem hi]
 exact h _ (List.getElem_mem hi)
theorem shipA_append (l1 l2 : List Hp) (i : Nat) : shipA (l1 ++ l2) i = shipA l1 i + shipA l2 i := by simp [shipA]
theorem with_fit {b : Bk} {l : List Hp} {s : St} (h : runF b l = some s) {j : Nat} (hj : j < l.length) {idx : List Nat} (hi : idx.Sublist (List.range (j + 1))) (h3 : ∀ t ∈ idx, (l.getD t zH).kind ≠ 3) : Fit (fxB b) (withF b l s.br j idx) := by
 have hok := run_ok h
 obtain ⟨t, ht, hts⟩ := run_prefix h (j + 1) (by omega)
 obtain ⟨hfb, hf, -⟩ := run_keep ht
 have hb0 := begin_fit hfb
 have hb := begin_len b
 have hlt := run_len ht
 have hls := run_len h
 have hmem : ∀ t ∈ idx, t < l.length ∧ (l.getD t zH).kind ≠ 3 := fun t ht => ⟨by have := List.mem_range.1 (hi.subset ht); omega, h3 t ht⟩
 obtain ⟨e1, e2, e3, e4, e5⟩ := with_eff hok s.br (Nat.le_of_lt hj) hmem
 have hsub := pickH_sub (l := l) hi (by omega)
 have hokt : ∀ z ∈ l.take (j + 1), OkH b.sups.length b.reqs.length z := fun z hz => hok z (List.mem_of_mem_take hz)
 obtain ⟨t1, -⟩ := steps_eff (run_steps ht).2 (by omega)
 have htake : l.take (j + 1) = l.take j ++ [l[j]] := by rw [List.take_add_one, List.getElem?_eq_getElem hj]; rfl
 have hs0 := fun i => shipA_take_le (n := b.sups.length) (m := b.reqs.length) (l := [l[j]]) (fun z hz => hok z (by simp at hz; subst hz; exact List.getElem_mem hj)) i
 have hs1 := fun i => shipA_take_le (n := b.sups.length) (m := b.reqs.length) (l := l.take j) (fun z hz => hok z (List.mem_of_mem_take hz)) i
 have hl0 : ∀ i, 0 ≤ lossA (idx.map fun t => l.getD t zH) i := fun i => (lossA_sub (List.Sublist.refl _) (fun z hz => hokt z (hsub.subset hz)) i).2
 obtain ⟨u, hu, -⟩ := run_prefix h j (by omega)
 obtain ⟨-, hfu, -⟩ := run_keep hu
 obtain ⟨u1, -⟩ := steps_eff (run_steps hu).2 (by omega)
 have hlu := run_len hu
 refine ⟨by rw [e2]; exact hfb.1, by rw [e3]; exact hfb.2.1, by rw [e4, e2], by rw [e5, brB_length, e3]; exact hls.2.2.2, by rw [e3]; simp [fxB], by rw [e2]; exact hfb.2.2.2.2.1, by rw [e3]; exact hfb.2.2.2.2.2, all_getD fun i hi2 => ?_, all_getD fun i hi2 => ?_, all_getD fun i hi2 => ?_, hb0.dur⟩
 ·rw [e2] at hi2
  have q1 := getD_all hf.amr (i := i) (by omega)
  have q2 := getD_all hb0.amr (i := i) (by omega)
  have q3 := (t1 i).1
  rw [htake, shipA_append] at q3
  have q4 := (lossA_sub hsub hokt i).1
  rw [htake] at q4
  have := hs0 i
  have := hs1 i
  have := hl0 i
  rw [(e1 i).1]
  omega
 ·rw [e3] at hi2
  have q1 := getD_all hfu.ndr (i := i) (by omega)
  rw [(e1 i).2.1, ← (u1 i).2.1]
  exact q1
 ·rw [e4] at hi2
  have q1 := getD_all hf.dyr (i := i) (by omega)
  have q2 := getD_all hb0.dyr (i := i) (by omega)
  have q3 := (t1 i).2.2
  have q4 := lateD_sub i hsub ((beginF b).dy.getD i 0)
  have q5 := lateD_ge i (idx.map fun t => l.getD t zH) ((beginF b).dy.getD i 0)
  rw [(e1 i).2.2]
  omega
theorem with_held {b : Bk} {l : List Hp} {s : St} (h : runF b l = some s) {j : Nat} (hj : j < l.length) {idx : List Nat} (hi : idx.Sublist (List.range j)) (h3 : ∀ t ∈ idx, (l.getD t zH).kind ≠ 3) : Held (fxB b) (withF b l s.br j idx) := by
 have hok := run_ok h
 obtain ⟨t, ht, hts⟩ := run_prefix h j (by omega)
 obtain ⟨hfb, hf, hh⟩ := run_keep ht
 have hb := begin_len b
 have hlt := run_len ht
 have hls := run_len h
 have hmem : ∀ t ∈ idx, t < l.length ∧ (l.getD t zH).kind ≠ 3 := fun t ht => ⟨by have := List.mem_range.1 (hi.subset ht); omega, h3 t ht⟩
 obtain ⟨e1, e2, e3, e4, e5⟩ := with_eff hok s.br (Nat.le_of_lt hj) hmem
 have hsub := pickH_sub (l := l) hi (by omega)
 have hokt : ∀ z ∈ l.take j, OkH b.sups.length b.reqs.length z := fun z hz => hok z (List.mem_of_mem_take hz)
 obtain ⟨t1, -⟩ := steps_eff (run_steps ht).2 (by omega)
 have hask : ∀ q, q < b.reqs.length → askF (withF b l s.br j idx) q = askF t q := fun q hq => by
  have h1 := br_prefix (by omega) ht hts hq
  rw [askF, askF, e5, brB_length, brB_get _ _ _ (by omega), ← h1]
  rw [hls.2.2.2, hlt.2.2.2]
 unfold Held at hh ⊢
 have hdl : (fxB b).due.length = b.reqs.length := by simp [fxB]
 refine Feas.more ?_ ?_ (fun k hk c hc hfit => ?_) (fun k hk => ?_) (fun c hc => .inl ?_) hh
 ·show (withF b l s.br j idx).am.length = t.am.length
  omega
 ·show (mskL _ _).length = (mskL _ _).length
  rw [mskL_length, mskL_length]; omega
 ·have hk' : k < t.am.length := hk
  have hc' : c < (mskL t.nd (askF t)).length := hc
  rw [mskL_length] at hc'
  have hfit' : ((tabL (fxB b).fits (fxB b).due t.dy).getD k []).getD c false = true := hfit
  show ((tabL (fxB b).fits (fxB b).due (withF b l s.br j idx).dy).getD k []).getD c false = true
  rw [tabL_get (by omega) (by omega)] at hfit' ⊢
  obtain ⟨f1, f2⟩ := Bool.and_eq_true_iff.1 hfit'
  have f3 := of_decide_eq_true f2
  refine Bool.and_eq_true_iff.2 ⟨f1, decide_eq_true ?_⟩
  have q3 := (t1 k).2.2
  have q4 := lateD_sub k hsub ((beginF b).dy.getD k 0)
  rw [(e1 k).2.2]
  omega
 ·show t.am.getD k 0 ≤ (withF b l s.br j idx).am.getD k 0
  have q3 := (t1 k).1
  have q4 := (lossA_sub hsub hokt k).1
  rw [(e1 k).1]
  omega
 ·have hc' : c < (mskL t.nd (askF t)).length := hc
  rw [mskL_length] at hc'
  show (mskL _ _).getD c 0 = (mskL _ _).getD c 0
  rw [mskL_getD, mskL_getD, hask c (by omega), (e1 c).2.1, (t1 c).2.1]
theorem becL_last {b : Bk} {l : List Hp} {s : St} (h : runF b l = some s) {j q : Nat} (hj : j < l.length) : ∀ (i : Nat) (pre : List Nat), i ≤ pre.length → pre.Sublist (notShip l j) → ∃ pre', becL b l s.br j q i (pre ++ [j]) = pre' ++ [j] ∧ pre'.Sublist (notShip l j)
 | 0, pre, _, hp => ⟨pre, rfl, hp⟩
 | i + 1, pre, hi, hp => by
  rw [becL]
  split
  ·rw [List.eraseIdx_append_of_lt_length (by omega)]
   exact becL_last h hj i (pre.eraseIdx i) (by rw [List.length_eraseIdx]; split <;> omega) ((List.eraseIdx_sublist _ _).trans hp)
  ·exact becL_last h hj i pre (by omega) hp
theorem becF_last {b : Bk} {l : List Hp} {s : St} (h : runF b l = some s) {j q : Nat} (hq : s.br.getD q 0 = (j : Int)) (hj : j < l.length) (h3 : (l.getD j zH).kind ≠ 3) : ∃ pre, becF b l s.br q = pre ++ [j] ∧ pre.Sublist (notShip l j) := by
 have e : (s.br.getD q 0).toNat = j := by omega
 rw [becF, e, notShip_succ h3, List.length_append, List.length_singleton, becL]
 have e2 : (notShip l j ++ [j]).eraseIdx (notShip l j).length = notShip l j := by
  rw [List.eraseIdx_append_of_length_le (Nat.le_refl _), Nat.sub_self]
  simp
 rw [e2]
 have hsub := notShip_sub l j
 have hk : ∀ t ∈ notShip l j, (l.getD t zH).kind ≠ 3 := fun t ht => (notShip_mem.1 ht).2
 rw [if_neg (by
  rw [fail_nil (with_fit h hj (sub_le hsub (Nat.le_succ j)) hk) (with_held h hj hsub hk)]
  exact List.not_mem_nil)]
 exact becL_last h hj _ _ (Nat.le_refl _) (List.Sublist.refl _)
end Go.Proofs.Ytcadnjmcmegpjaa

/-
 Honour: kinds, run.
 Conditions: none.
-/
namespace Go.Proofs.Ytcadnjmcmegpjaa
open Go Bf
attribute [local irreducible] Tr Exec Stab HasTy Go.Addr.add IntKind.wrap
def fnV (k : Nat) : Value := .func (.func k) #[] #[]
def KindsOk (es : List MapEntry) : Prop := IntKeys es ∧ valE 1 es = some (fnV 84) ∧ valE 2 es = some (fnV 85) ∧ valE 3 es = some (fnV 86) ∧ ∀ k, k ≠ 1 → k ≠ 2 → k ≠ 3 → valE k es = none
set_option maxHeartbeats 4000000 in
theorem kinds_own (M : Mem) : Bf.Fn Try.prog 59 [] M [] (fun r M' A' => M = M' ∧ ∃ b es cl, r = .map (some b) ∧ A' = [mapR b es cl] ∧ KindsOk es) := by
 refine Fn.intro Try.func59 rfl rfl Try.ntmps59 rfl fun E F => ?_
 have k0 : IntKeys [] := IntKeys.nil
 have k1 : IntKeys (updE 1 (fnV 84) [] 0).1 := updE_keys k0
 have k2 : IntKeys (updE 2 (fnV 85) (updE 1 (fnV 84) [] 0).1 (updE 1 (fnV 84) [] 0).2).1 := updE_keys k1
 (repeat (first | ((with_reducible refine Tr.step rfl ?_); (first | (refine xmQ ?_) | (refine xaQ ?_) | ((with_reducible refine Knd.makeMap ?_); (refine Exec.makeMap rfl (fun b => ?_))) | ((with_reducible refine Knd.insert ?_); ((refine Exec.mapInsert rfl rfl rfl (tysOk.get rfl) rfl (tysOk.get rfl) rfl ?_ (by repeat (first | exact Upd.here | apply Upd.there)) ?_); (first | exact IntKeys.nil | assumption))))) | (with_reducible first | apply Tr.next | apply Tr.seq | apply Tr.region | apply Tr.nil | apply Tr.ret)))
 refine Tr.doneA (A' := [_]) (by first | exact .inl rfl | exact .inr rfl) rfl (by repeat (first | exact RVs.nil | (apply RVs.cons; (exact RV.tmp rfl)))) (Mem.le.refl _) ⟨fun r hr => hr, fun h => h⟩ ⟨rfl, _, _, _, rfl, rfl, ?_⟩
 refine ⟨updE_keys k2, ?_, ?_, ?_, fun k h1 h2 h3 => ?_⟩
 ·rw [updE_val, updE_val, updE_val]; rfl
 ·rw [updE_val, updE_val]; rfl
 ·rw [updE_val]; rfl
 ·rw [updE_val, updE_val, updE_val, if_neg h3, if_neg h2, if_neg h1]; rfl
def RHp (_ : Mem) (c : List Value) (y : Hp) : Prop := c = [.int .i64 y.kind, .int .i64 y.sup, .int .i64 y.req, .int .i64 y.day, .int .i64 y.amt]
theorem RHp.mono (M M' : Mem) (c : List Value) (y : Hp) (_ : Mem.le M M') (h : RHp M c y) : RHp M' c y := h
theorem steps_next {x : Fx} {s0 s s' : St} {l : List Hp} {i : Nat} {h : Hp} (hs : stepsF x s0 0 (l.take i) = some s) (hh : l[i]? = some h) (hn : stepF x s h i = some s') : stepsF x s0 0 (l.take (i + 1)) = some s' := by
 have hi := (List.getElem?_eq_some_iff.1 hh).1
 rw [List.take_add_one, hh, stepsF_append, hs]
 show stepsF x s (0 + (l.take i).length) [h] = _
 rw [List.length_take, Nat.min_eq_left (by omega), Nat.zero_add, stepsF, hn]
 rfl
theorem steps_stop {x : Fx} {s0 s : St} {l : List Hp} {i : Nat} {h : Hp} (hs : stepsF x s0 0 (l.take i) = some s) (hh : l[i]? = some h) (hn : stepF x s h i = none) : stepsF x s0 0 l = none := by
 have hi := (List.getElem?_eq_some_iff.1 hh).1
 have e : l = l.take i ++ (h :: l.drop (i + 1)) := by
  rw [show h :: l.drop (i + 1) = l.drop i by rw [List.drop_eq_getElem_cons hi]; congr 1; exact ((List.getElem?_eq_some_iff.1 hh).2).symm, List.take_append_drop]
 rw [e, stepsF_append, hs]
 show stepsF x s (0 + (l.take i).length) (h :: _) = _
 rw [List.length_take, Nat.min_eq_left (by omega), Nat.zero_add, stepsF, hn]
 rfl
theorem run_yes {k : Bk} {l : List Hp} (hv : validB k) : runF k l = stepsF (fxB k) (beginF k) 0 l := by unfold runF; rw [if_pos hv]
theorem run_no {k : Bk} {l : List Hp} (hv : ¬ validB k) : runF k l = none := by unfold runF; rw [if_neg hv]
theorem step_other {x : Fx} {s : St} {h : Hp} {i : Nat} (h1 : h.kind ≠ 1) (h2 : h.kind ≠ 2) (h3 : h.kind ≠ 3) : stepF x s h i = none := by
 unfold stepF; rw [if_neg h1, if_neg h2, if_neg h3]
set_option maxHeartbeats 16000000 in
theorem run_fn (M : Mem) (v : Value) (k : Bk) (h : RBk M v k) (A : Option Addr) (c : Nat) (l : List Hp) (hl : SlOf 5 RHp M (.slice A l.length c) l) :
  FnP Try.prog 25 [v, .slice A l.length c] M [] (fun r M' A' => A' = [] ∧ ∃ s, runF k l = some s ∧ RSt M' r (fxB k) s) (fun ch _ A' => ch = refCh ∧ A' = [] ∧ runF k l = none) := by
 have hB := h
 obtain ⟨As, cs, Ar, cr, Af, cf, Ad, cd, rfl, h1, h2, h3⟩ := h
 have hlS := h1.len_le
 have hlR := h2.len_le
 have hll := hl.len_le
 have hcb := checkBook_fn M _ k hB
 have hrun := run_yes (k := k) (l := l)
 have hrun0 := run_no (k := k) (l := l)
 refine FnP.intro Try.func25 rfl rfl Try.ntmps25 rfl fun E F => ?_
 (repeat (first | ((with_reducible refine Tr.step rfl ?_); (first | (refine xwQ ?_) | ((with_reducible refine Knd.box ?_); (refine Exec.box rfl rfl (fun b => ?_))) | ((with_reducible refine Knd.alloc ?_); (refine Exec.alloc (tysOk.get rfl) rfl rfl (fun b => ?_))))) | (with_reducible first | apply Tr.next | apply Tr.seq | apply Tr.region | apply Tr.nil)))
 generalize b = b4
 rename_i b2
 ((refine Tr.step rfl ?_))
 refine Exec.callP rfl hcb (List.Perm.refl _) rfl (fun v M0 A' hm0 hR => ?_) (fun ch M' A' hm hR => ?_)
 rotate_left
 ·obtain ⟨rfl, rfl, hv⟩ := hR
  (repeat ((with_reducible refine Tr.then_panic ?_)))
  exact Tr.doneP (A' := []) hm (by repeat (first | exact DropL.refl | apply DropL.skip)) ⟨rfl, rfl, hrun0 hv⟩
 obtain ⟨rfl, hv⟩ := hR
 rw [hrun hv]
 have hfit := begin_fit hv.1
 have hl64 := hv.1.1
 have hr64 := hv.1.2.1
 (refine rQ ?_)
 ((refine Tr.step rfl ?_))
 refine Exec.call0 rfl (hbegin_fn M0 _ k (hB.mono hm0) (by omega) (by omega)) rfl ?_
 rintro r1 M1 hm1 ⟨Bf, kf, Ba, ka, Bd, kd, Bn, kn, Bu, ku, Bb, kb, rfl, q1, q2, q3, q4, q5, q6⟩
 (repeat (first | ((with_reducible refine Tr.step rfl ?_); (first | (refine xWQ ?_) | ((with_reducible refine Knd.alloc ?_); (refine Exec.alloc (tysOk.get rfl) rfl rfl (fun b => ?_))))) | (with_reducible first | apply Tr.next | apply Tr.seq | apply Tr.region | apply Tr.nil)))
 generalize b = b5
 ((refine Tr.step rfl ?_))
 refine Exec.call (A := []) rfl (kinds_own M1) (List.Perm.refl _) rfl ?_
 rintro _ _ _ - ⟨rfl, bm, es, cl, rfl, rfl, hk0, hk1, hk2, hk3, hkn⟩
 simp only [List.cons_append, List.nil_append]
 (refine rQ ?_)
 have hR0 : RSt M1 (.agg #[.slice Bf (fxB k).fits.length kf, .slice Ba (beginF k).am.length ka, .slice Bd (beginF k).dy.length kd, .slice Bn (beginF k).nd.length kn, .slice Bu (fxB k).due.length ku, .slice Bb (beginF k).br.length kb]) (fxB k) (beginF k) := ⟨Bf, kf, Ba, ka, Bd, kd, Bn, kn, Bu, ku, Bb, kb, rfl, q1, q2, q3, q4, q5, q6⟩
 clear q1 q2 q3 q4 q5 q6
 have hheld := (fail_nil_iff hfit).1 (by show failF _ _ (k.reqs.map (·.amount)).length = []; rw [List.length_map]; exact hv.2)
 have hm01 := hm0.trans hm1
 refine Tr.loop (α := Nat × Mem × (Value × Value × Value × Value × Value × Value) × St) (fun y => ⟨39, [(18, .int .i64 (y.1 : Int)), (17, .int .i64 (l.length : Int)), (16, .slice A l.length c), (6, .map (some bm)), (5, .pointer (some ⟨b5, 0, none⟩)), (4, .pointer (some ⟨b4, 0, none⟩))], [], y.2.1,
   mapR bm es cl :: box b5 89 [y.2.2.1.1, y.2.2.1.2.1, y.2.2.1.2.2.1, y.2.2.1.2.2.2.1, y.2.2.1.2.2.2.2.1, y.2.2.1.2.2.2.2.2] :: box b4 89 [.slice none 0 0, .slice none 0 0, .slice none 0 0, .slice none 0 0, .slice none 0 0, .slice none 0 0] :: box b2 47 [.int .i64 k.known, .slice As k.sups.length cs, .slice Ar k.reqs.length cr, .slice Af k.fits.length cf, .slice Ad k.reads cd] :: F⟩)
  (fun y => y.1 ≤ l.length ∧ Mem.le M y.2.1 ∧ RSt y.2.1 (.agg #[y.2.2.1.1, y.2.2.1.2.1, y.2.2.1.2.2.1, y.2.2.1.2.2.2.1, y.2.2.1.2.2.2.2.1, y.2.2.1.2.2.2.2.2]) (fxB k) y.2.2.2 ∧ stepsF (fxB k) (beginF k) 0 (l.take y.1) = some y.2.2.2) (fun y => l.length - y.1)
  (0, M1, (.slice Bf (fxB k).fits.length kf, .slice Ba (beginF k).am.length ka, .slice Bd (beginF k).dy.length kd, .slice Bn (beginF k).nd.length kn, .slice Bu (fxB k).due.length ku, .slice Bb (beginF k).br.length kb), beginF k) ⟨Nat.zero_le _, hm01, hR0, rfl⟩ hsQ (fun y hy => ?_)
 clear hR0 hm0 hm1 hm01
 obtain ⟨i, M2, ⟨v1, v2, v3, v4, v5, v6⟩, s⟩ := y
 obtain ⟨hi, hm2, hS, hst⟩ := hy
 dsimp only at hi hm2 hS hst
 dsimp only
 obtain ⟨hfs, -⟩ := stepsF_keep hst hfit hheld
 by_cases hlt : i < l.length
 rotate_left
 ·have ei : i = l.length := by omega
  subst ei
  rw [List.take_length] at hst
  obtain ⟨Cf, gf, Ca, ga, Cd, gd, Cn, gn, Cu, gu, Cb, gb, ev, w1, w2, w3, w4, w5, w6⟩ := hS
  injection ev with ev
  simp only [Array.mk.injEq, List.cons.injEq, and_true] at ev
  obtain ⟨rfl, rfl, rfl, rfl, rfl, rfl⟩ := ev
  (refine rQ ?_)
  refine Tr.ofPost ?_
  (refine Tr.done (by first | exact .inl rfl | exact .inr rfl) rfl (by repeat (first | exact RVs.nil | (apply RVs.cons; (exact RV.cellW (by rfl) (tysOk.get (by rfl)) (by rfl) (by repeat (first | exact Has.here | apply Has.there)) (by first | rfl | assumption))))) (by first | exact Mem.le.refl _ | assumption) (by exact ⟨[_, _, _, _], rfl⟩) ⟨rfl, ?_⟩)
  exact ⟨s, hst, Cf, gf, Ca, ga, Cd, gd, Cn, gn, Cu, gu, Cb, gb, rfl, w1, w2, w3, w4, w5, w6⟩
 obtain ⟨hh, hhh⟩ := get_of_lt hlt
 have hl2 := hl.mono RHp.mono hm2
 obtain ⟨hA, ch, hat, rfl⟩ := hl2.elem hhh
 have hcase : (∃ f, valE hh.kind es = some (fnV f) ∧ FnP Try.prog f [.agg #[v1, v2, v3, v4, v5, v6], hpV hh, .int .i64 (i : Int)] M2 [] (fun r M' A' => A' = [] ∧ ∃ s', stepF (fxB k) s hh i = some s' ∧ RSt M' r (fxB k) s') (fun ch _ A' => ch = refCh ∧ A' = [] ∧ stepF (fxB k) s hh i = none)) ∨ valE hh.kind es = none ∧ stepF (fxB k) s hh i = none := by
  by_cases c1 : hh.kind = 1
  ·exact .inl ⟨_, by rw [c1]; exact hk1, lose_fn M2 _ (fxB k) s hh i hS hfs c1⟩
  by_cases c2 : hh.kind = 2
  ·exact .inl ⟨_, by rw [c2]; exact hk2, late_fn M2 _ (fxB k) s hh i hS hfs c2⟩
  by_cases c3 : hh.kind = 3
  ·exact .inl ⟨_, by rw [c3]; exact hk3, ship_fn M2 _ (fxB k) s hh i hS hfs c3⟩
  exact .inr ⟨hkn _ c1 c2 c3, step_other c1 c2 c3⟩
 have hpan := require_n M2
 rcases hcase with ⟨f, hvf, hfn⟩ | ⟨hvn, hsn⟩
 rotate_left
 ·(repeat (first | ((with_reducible refine Tr.step rfl ?_); (first | (refine xmQ ?_) | (refine xaQ ?_) | ((with_reducible refine Knd.load ?_); (first | (refine xlQ ?_) | (refine Exec.stab rfl (Stab.loadMA rfl (tysOk.get rfl) rfl (by assumption) (by first | rfl | assumption)) rfl ?_))) | (refine xfQ ?_) | (refine xiQ ?_) | (refine xWQ ?_) | ((with_reducible refine Knd.alloc ?_); (refine Exec.alloc (tysOk.get rfl) rfl rfl (fun b => ?_))) | ((with_reducible refine Knd.lookup ?_); (refine Exec.stab rfl (Stab.lookup2n rfl rfl (tysOk.get rfl) rfl (tysOk.get rfl) rfl (tysOk.get rfl) rfl (by repeat (first | exact Has.here | apply Has.there)) (by assumption) (by assumption)) rfl ?_)) | ((with_reducible refine Knd.extract ?_); (refine Exec.stab rfl (Stab.extract rfl rfl) rfl ?_)) | (refine xxQ ?_))) | (with_reducible first | apply Tr.next | apply Tr.seq | apply Tr.region | apply Tr.nil | apply Tr.skip | apply Tr.block) | (refine Tr.cond_t rfl (by first | (with_reducible assumption) | omega) ?_)))
  ((refine Tr.step rfl ?_))
  refine Exec.callP rfl hpan (List.Perm.refl _) rfl (fun v M' A' hm hR => hR.elim) (fun ch M' A' hm hR => ?_)
  obtain ⟨rfl, rfl, rfl⟩ := hR
  (repeat (first | (with_reducible first | apply Tr.then_panic | apply Tr.in_panic)))
  exact Tr.doneP (A' := []) hm2 (by repeat (first | exact DropL.refl | apply DropL.skip)) ⟨rfl, rfl, steps_stop hst hhh hsn⟩
 (repeat (first | ((with_reducible refine Tr.step rfl ?_); (first | (refine xmQ ?_) | (refine xaQ ?_) | ((with_reducible refine Knd.load ?_); (first | (refine xlQ ?_) | (refine Exec.stab rfl (Stab.loadMA rfl (tysOk.get rfl) rfl (by assumption) (by first | rfl | assumption)) rfl ?_))) | (refine xfQ ?_) | (refine xiQ ?_) | (refine xWQ ?_) | ((with_reducible refine Knd.alloc ?_); (refine Exec.alloc (tysOk.get rfl) rfl rfl (fun b => ?_))) | ((with_reducible refine Knd.lookup ?_); (refine Exec.stab rfl (Stab.lookup2s rfl rfl (tysOk.get rfl) rfl (tysOk.get rfl) rfl (tysOk.get rfl) (by repeat (first | exact Has.here | apply Has.there)) (by assumption) (by assumption)) rfl ?_)) | ((with_reducible refine Knd.extract ?_); (refine Exec.stab rfl (Stab.extract rfl rfl) rfl ?_)) | (refine xxQ ?_))) | (with_reducible first | apply Tr.next | apply Tr.seq | apply Tr.region | apply Tr.nil | apply Tr.skip | apply Tr.block) | (refine Tr.cond_t rfl (by first | (with_reducible assumption) | omega) ?_)))
 ((refine Tr.step rfl ?_)); refine Exec.call0 rfl (require_y M2) rfl ?_
 rintro _ _ _ rfl
 (refine rQ ?_)
 ((refine Tr.step rfl ?_))
 refine Exec.callPv (first := []) (cap := []) rfl rfl hfn (List.Perm.refl _) rfl (fun v M3 A' hm3 hR => ?_) (fun ch M' A' hm3 hR => ?_)
 rotate_left
 ·obtain ⟨rfl, rfl, hsn⟩ := hR
  (repeat (first | (with_reducible first | apply Tr.then_panic | apply Tr.in_panic)))
  exact Tr.doneP (A' := []) (hm2.trans hm3) (by repeat (first | exact DropL.refl | apply DropL.skip)) ⟨rfl, rfl, steps_stop hst hhh hsn⟩
 obtain ⟨rfl, s', hsy, Cf, gf, Ca, ga, Cd, gd, Cn, gn, Cu, gu, Cb, gb, rfl, w1, w2, w3, w4, w5, w6⟩ := hR
 (refine rQ ?_)
 refine gvQ (r := box b _ _) ?_
 refine Tr.again (i + 1, M3, (.slice Cf (fxB k).fits.length gf, .slice Ca s'.am.length ga, .slice Cd s'.dy.length gd, .slice Cn s'.nd.length gn, .slice Cu (fxB k).due.length gu, .slice Cb s'.br.length gb), s') ⟨by show i + 1 ≤ _; omega, hm2.trans hm3, ⟨Cf, gf, Ca, ga, Cd, gd, Cn, gn, Cu, gu, Cb, gb, rfl, w1, w2, w3, w4, w5, w6⟩, steps_next hst hhh hsy⟩ (by simp only; omega) hsQ
end Go.Proofs.Ytcadnjmcmegpjaa

/-
 Honour: result.
 Conditions: none.
-/
namespace Go.Proofs.Ytcadnjmcmegpjaa
open Go Bf
attribute [local irreducible] Tr Exec Stab HasTy Go.Addr.add IntKind.wrap
def spV (y : Sp) : List Value := [.int .i64 y.no, .int .i64 y.item, .int .i64 y.plant, .int .i64 y.ready, .int .i64 y.expiry, .int .i64 y.amount]
def rqV (y : Rq) : List Value := [.int .i64 y.no, .int .i64 y.item, .int .i64 y.cust, .int .i64 y.due, .int .i64 y.shelf, .int .i64 y.amount]
theorem spV_len (y : Sp) : (spV y).length = 6 := rfl
theorem rqV_len (y : Rq) : (rqV y).length = 6 := rfl
theorem spV_one (y : Sp) : ∀ u ∈ spV y, u.oneCell' = true := by
 intro u hu
 simp only [spV, List.mem_cons, List.not_mem_nil, or_false] at hu
 rcases hu with rfl | rfl | rfl | rfl | rfl | rfl <;> rfl
theorem rqV_one (y : Rq) : ∀ u ∈ rqV y, u.oneCell' = true := by
 intro u hu
 simp only [rqV, List.mem_cons, List.not_mem_nil, or_false] at hu
 rcases hu with rfl | rfl | rfl | rfl | rfl | rfl <;> rfl
set_option maxHeartbeats 4000000 in
theorem cloneS_fn (M : Mem) (A : Option Addr) (c : Nat) (l : List Sp) (hl : SlOf 6 RSp M (.slice A l.length c) l) (hs : l.length ≤ 1000000) :
  Bf.Fn Try.prog 45 [.slice A l.length c] M [] (fun r M' A' => (∃ B k, r = .slice B l.length k ∧ k ≤ 9223372036854775807 ∧ A' = [ownS 72 6 B l.length k (l.flatMap spV)]) ∧ M = M') := by
 have hrow := SlOf.row hl (fun _ _ h => h) spV_len
 have hcap := SlOf.cells hl
 refine Fn.intro Try.func45 rfl rfl Try.ntmps45 rfl fun E F => ?_
 by_cases hA : A = none
 ·obtain ⟨-, -, -, -, hnil, -⟩ := hcap
  have hnil : l = [] := List.eq_nil_of_length_eq_zero (hnil hA)
  subst hnil
  (repeat (first | ((with_reducible refine Tr.step rfl ?_); (first | (refine xmQ ?_) | (refine xaQ ?_) | ((with_reducible refine Knd.binOp ?_); (refine Exec.stab rfl (Stab.slnil rfl (tysOk.get rfl) rfl) rfl ?_)))) | (with_reducible first | apply Tr.next | apply Tr.seq | apply Tr.region | apply Tr.nil | apply Tr.ret | apply Tr.then_ret) | (refine Tr.cond_t rfl (by first | (with_reducible assumption) | (with_reducible rfl) | (with_reducible exact (not_not_intro rfl)) | omega) ?_)))
  refine Tr.own_nil 72 6 ?_
  refine Tr.doneA (A' := [ownS 72 6 none 0 0 []]) (by first | exact .inl rfl | exact .inr rfl) rfl (by repeat (first | exact RVs.nil | (apply RVs.cons; (exact RV.tmp rfl)))) (Mem.le.refl _) ⟨fun _ h => h, fun h => h⟩ ⟨⟨none, 0, rfl, by omega, rfl⟩, rfl⟩
 ·(repeat (first | ((with_reducible refine Tr.step rfl ?_); (first | (refine xmQ ?_) | (refine xaQ ?_) | ((with_reducible refine Knd.binOp ?_); (refine Exec.stab rfl (Stab.slnil rfl (tysOk.get rfl) rfl) rfl ?_)) | ((with_reducible refine Knd.buildSlice ?_); (refine Exec.buildSlice (tysOk.get rfl) rfl (tysOk.get rfl) rfl rfl rfl rfl rfl (by repeat (first | exact BuildP.nil | ((apply BuildP.one); (rfl); (rfl); (first | rfl | assumption); (repeat (first | exact SetL.z | apply SetL.s))) | ((apply BuildP.many); (rfl); (rfl); (rfl); (rfl); (repeat (first | exact PutL.nil | ((apply PutL.cons); (repeat (first | exact SetL.z | apply SetL.s)))))))) rfl (fun b => ?_))))) | (with_reducible first | apply Tr.next | apply Tr.seq | apply Tr.region | apply Tr.nil | apply Tr.skip) | (refine Tr.cond_f rfl (by first | (with_reducible assumption) | (with_reducible rfl) | (with_reducible exact (not_not_intro rfl)) | omega) ?_)))
  refine Tr.box_own 6 0 (by repeat (first | exact Upd.here | apply Upd.there)) rfl (by intro u hu; cases hu) (by simp [maxLen]) ?_
  ((refine Tr.step rfl ?_))
  refine Exec.append (news := l.flatMap spV) rfl rfl (tysOk.get rfl) rfl (tysOk.get rfl) rfl rfl rfl rfl (by repeat (first | exact Del.here | apply Del.there)) (Src.row hrow) (flatMap_len spV_len _) (flatMap_one spV_one _) (by omega) (by omega) rfl (fun A6 c6 hc6 => ?_)
  rw [Nat.zero_add]
  (refine rQ ?_)
  refine Tr.doneA (A' := [ownS 72 6 A6 l.length c6 (l.flatMap spV)]) (by first | exact .inl rfl | exact .inr rfl) rfl (by repeat (first | exact RVs.nil | (apply RVs.cons; (exact RV.tmp rfl)))) (Mem.le.refl _) ⟨fun _ h => h, fun h => h⟩ ⟨⟨A6, c6, rfl, hc6, rfl⟩, rfl⟩
set_option maxHeartbeats 4000000 in
theorem cloneR_fn (M : Mem) (A : Option Addr) (c : Nat) (l : List Rq) (hl : SlOf 6 RRq M (.slice A l.length c) l) (hs : l.length ≤ 1000000) :
  Bf.Fn Try.prog 46 [.slice A l.length c] M [] (fun r M' A' => (∃ B k, r = .slice B l.length k ∧ k ≤ 9223372036854775807 ∧ A' = [ownS 52 6 B l.length k (l.flatMap rqV)]) ∧ M = M') := by
 have hrow := SlOf.row hl (fun _ _ h => h) rqV_len
 have hcap := SlOf.cells hl
 refine Fn.intro Try.func46 rfl rfl Try.ntmps46 rfl fun E F => ?_
 by_cases hA : A = none
 ·obtain ⟨-, -, -, -, hnil, -⟩ := hcap
  have hnil : l = [] := List.eq_nil_of_length_eq_zero (hnil hA)
  subst hnil
  (repeat (first | ((with_reducible refine Tr.step rfl ?_); (first | (refine xmQ ?_) | (refine xaQ ?_) | ((with_reducible refine Knd.binOp ?_); (refine Exec.stab rfl (Stab.slnil rfl (tysOk.get rfl) rfl) rfl ?_)))) | (with_reducible first | apply Tr.next | apply Tr.seq | apply Tr.region | apply Tr.nil | apply Tr.ret | apply Tr.then_ret) | (refine Tr.cond_t rfl (by first | (with_reducible assumption) | (with_reducible rfl) | (with_reducible exact (not_not_intro rfl)) | omega) ?_)))
  refine Tr.own_nil 52 6 ?_
  refine Tr.doneA (A' := [ownS 52 6 none 0 0 []]) (by first | exact .inl rfl | exact .inr rfl) rfl (by repeat (first | exact RVs.nil | (apply RVs.cons; (exact RV.tmp rfl)))) (Mem.le.refl _) ⟨fun _ h => h, fun h => h⟩ ⟨⟨none, 0, rfl, by omega, rfl⟩, rfl⟩
 ·(repeat (first | ((with_reducible refine Tr.step rfl ?_); (first | (refine xmQ ?_) | (refine xaQ ?_) | ((with_reducible refine Knd.binOp ?_); (refine Exec.stab rfl (Stab.slnil rfl (tysOk.get rfl) rfl) rfl ?_)) | ((with_reducible refine Knd.buildSlice ?_); (refine Exec.buildSlice (tysOk.get rfl) rfl (tysOk.get rfl) rfl rfl rfl rfl rfl (by repeat (first | exact BuildP.nil | ((apply BuildP.one); (rfl); (rfl); (first | rfl | assumption); (repeat (first | exact SetL.z | apply SetL.s))) | ((apply BuildP.many); (rfl); (rfl); (rfl); (rfl); (repeat (first | exact PutL.nil | ((apply PutL.cons); (repeat (first | exact SetL.z | apply SetL.s)))))))) rfl (fun b => ?_))))) | (with_reducible first | apply Tr.next | apply Tr.seq | apply Tr.region | apply Tr.nil | apply Tr.skip) | (refine Tr.cond_f rfl (by first | (with_reducible assumption) | (with_reducible rfl) | (with_reducible exact (not_not_intro rfl)) | omega) ?_)))
  refine Tr.box_own 6 0 (by repeat (first | exact Upd.here | apply Upd.there)) rfl (by intro u hu; cases hu) (by simp [maxLen]) ?_
  ((refine Tr.step rfl ?_))
  refine Exec.append (news := l.flatMap rqV) rfl rfl (tysOk.get rfl) rfl (tysOk.get rfl) rfl rfl rfl rfl (by repeat (first | exact Del.here | apply Del.there)) (Src.row hrow) (flatMap_len rqV_len _) (flatMap_one rqV_one _) (by omega) (by omega) rfl (fun A6 c6 hc6 => ?_)
  rw [Nat.zero_add]
  (refine rQ ?_)
  refine Tr.doneA (A' := [ownS 52 6 A6 l.length c6 (l.flatMap rqV)]) (by first | exact .inl rfl | exact .inr rfl) rfl (by repeat (first | exact RVs.nil | (apply RVs.cons; (exact RV.tmp rfl)))) (Mem.le.refl _) ⟨fun _ h => h, fun h => h⟩ ⟨⟨A6, c6, rfl, hc6, rfl⟩, rfl⟩
def upTo {α : Type} (f : Nat → α → α) (l ys : List α) (i : Nat) : Prop := ys.length = l.length ∧ ∀ t, ys[t]? = if t < i then (l[t]?).map (f t) else l[t]?
theorem upTo.step {α : Type} {f : Nat → α → α} {l ys : List α} {i : Nat} (h : upTo f l ys i) {y : α} (hy : l[i]? = some y) : upTo f l (ys.set i (f i y)) (i + 1) := by
 refine ⟨by rw [List.length_set]; exact h.1, fun t => ?_⟩
 have hi := (List.getElem?_eq_some_iff.1 hy).1
 by_cases e : t = i
 ·subst e
  rw [List.getElem?_set_self (by have := h.1; omega), if_pos (by omega), hy]; rfl
 ·rw [List.getElem?_set_ne (by omega), h.2 t]
  by_cases e2 : t < i
  ·rw [if_pos e2, if_pos (by omega)]
  ·rw [if_neg e2, if_neg (by omega)]
theorem upTo.fin {α : Type} {f : Nat → α → α} {l ys : List α} (h : upTo f l ys l.length) (d : α) : ys = (List.range l.length).map fun i => f i (l.getD i d) := by
 apply List.ext_getElem?
 intro t
 rw [h.2 t]
 by_cases ht : t < l.length
 ·simp [ht, List.getD_eq_getElem?_getD]
 ·rw [if_neg ht, List.getElem?_eq_none (by omega), List.getElem?_eq_none (by simp; omega)]
theorem upTo.at {α : Type} {f : Nat → α → α} {l ys : List α} {i : Nat} (h : upTo f l ys i) {y : α} (hy : l[i]? = some y) : ys[i]? = some y := by
 rw [h.2 i, if_neg (by omega)]; exact hy
theorem upTo.zero {α : Type} (f : Nat → α → α) (l : List α) : upTo f l l 0 := ⟨rfl, fun t => by rw [if_neg (by omega)]⟩
end Go.Proofs.Ytcadnjmcmegpjaa

/-
 Honour: result.
 Conditions: none.
-/
namespace Go.Proofs.Ytcadnjmcmegpjaa
open Go Bf
attribute [local irreducible] Tr Exec Stab HasTy Go.Addr.add IntKind.wrap
def resS (s : St) (t : Nat) (y : Sp) : Sp := setSup y (s.am.getD t 0) (s.dy.getD t 0)
def resR (s : St) (t : Nat) (y : Rq) : Rq := setReq y (if 0 ≤ s.br.getD t 0 then 0 else s.nd.getD t 0)
theorem set_twice {α : Type} (l : List α) (i : Nat) (x y : α) : (l.set i x).set i y = l.set i y := List.set_set ..
set_option maxHeartbeats 16000000 in
theorem result_fn (M : Mem) (v w : Value) (k : Bk) (s : St) (h : RBk M v k) (hS : RSt M w (fxB k) s) (hf : Fit (fxB k) s) (hls : s.am.length = k.sups.length) (hlr : s.nd.length = k.reqs.length) :
  Fn0 Try.prog 24 [v, w] M (fun r M' => RBk M' r (resF k s)) := by
 obtain ⟨As, cs, Ar, cr, Af, cf, Ad, cd, rfl, h1, h2, h3⟩ := h
 have hS0 := hS
 obtain ⟨Bf, kf, Ba, ka, Bd, kd, Bn, kn, Bu, ku, Bb, kb, rfl, q1, q2, q3, q4, q5, q6⟩ := hS
 have hsv := serving_fn M _ (fxB k) s hS0 hf
 have z1 := hf.l64
 have z2 := hf.r64
 have z3 := hf.dyl
 have z4 := hf.brl
 refine Fn.intro Try.func24 rfl rfl Try.ntmps24 rfl fun E F => ?_
 (repeat (first | ((with_reducible refine Tr.step rfl ?_); (first | (refine xlQ ?_) | (refine xfQ ?_) | ((with_reducible refine Knd.box ?_); (refine Exec.box rfl rfl (fun b => ?_))) | ((with_reducible refine Knd.alloc ?_); (refine Exec.alloc (tysOk.get rfl) rfl rfl (fun b => ?_))))) | (with_reducible first | apply Tr.next | apply Tr.seq | apply Tr.region | apply Tr.nil)))
 generalize b = b4
 rename_i b2 b3
 ((refine Tr.step rfl ?_))
 refine Exec.call (A := []) rfl (cloneS_fn M As cs k.sups h1 (by omega)) (List.Perm.refl _) rfl ?_
 rintro _ _ _ - ⟨⟨A1, c1, rfl, hc1, rfl⟩, rfl⟩
 simp only [List.cons_append, List.nil_append]
 (refine rQ ?_)
 refine Tr.loop (α := Nat × List Sp) (fun y => ⟨74, [(14, .int .i64 (y.1 : Int)), (13, .int .i64 (k.sups.length : Int)), (12, .slice A1 k.sups.length c1), (4, .pointer (some ⟨b4, 0, none⟩)), (3, .pointer (some ⟨b3, 0, none⟩)), (2, .pointer (some ⟨b2, 0, none⟩))], [], M,
   ownS 72 6 A1 k.sups.length c1 (y.2.flatMap spV) :: box b4 47 [.int .i64 0, .slice none 0 0, .slice none 0 0, .slice none 0 0, .slice none 0 0] :: box b3 89 [.slice Bf (fxB k).fits.length kf, .slice Ba s.am.length ka, .slice Bd s.dy.length kd, .slice Bn s.nd.length kn, .slice Bu (fxB k).due.length ku, .slice Bb s.br.length kb] :: box b2 47 [.int .i64 k.known, .slice A1 k.sups.length c1, .slice Ar k.reqs.length cr, .slice Af k.fits.length cf, .slice Ad k.reads cd] :: F⟩)
  (fun y => y.1 ≤ k.sups.length ∧ upTo (resS s) k.sups y.2 y.1) (fun y => k.sups.length - y.1) (0, k.sups) ⟨Nat.zero_le _, upTo.zero _ _⟩ hsQ (fun y hy => ?_)
 obtain ⟨i, ys⟩ := y
 obtain ⟨hi, hup⟩ := hy
 dsimp only at hi hup
 dsimp only
 by_cases hlt : i < k.sups.length
 ·obtain ⟨y, hy⟩ := get_of_lt hlt
  have hyy := hup.at hy
  obtain ⟨a, ha⟩ := get_of_lt (xs := s.am) (i := i) (by omega)
  obtain ⟨d, hd⟩ := get_of_lt (xs := s.dy) (i := i) (by omega)
  have had := getD_of (d := (0 : Int)) ha
  have hdd := getD_of (d := (0 : Int)) hd
  obtain ⟨hAa, hata⟩ := Ints.at q2 ha
  obtain ⟨hAd, hatd⟩ := Ints.at q3 hd
  refine Tr.own_some A1 (e := 72) (sz := 6) (m := k.sups.length) (c := c1) (xs := ys.flatMap spV) (by repeat (first | exact Has.here | apply Has.there)) (by omega) (fun hA1 => ?_)
  (refine rQ ?_)
  (((apply Tr.draw); (kernel_rfl)); (refine tkQ 0 (hB := by exact fun _ h => h) (s := by exact sfQ) ?_); (refine tkQ 2 (s := by exact Stab.move rfl) ?_); (refine tkQ 3 (s := by exact sfQ) ?_); (refine tkQ 5 (s := by exact Stab.move rfl) ?_); (refine tkQ 1 (s := by exact slQ) ?_); (refine tkQ 4 (s := by exact slQ) ?_); (refine tkQ 6 (s := by exact sxQ) ?_); (refine tkQ 7 (s := by exact sMQ) ?_); (refine tkQ 8 (s := by exact sxQ) ?_); (refine tkQ 9 (s := by exact Stab.fieldD rfl (tysOk.get rfl) rfl rfl (tysOk.get rfl) rfl) ?_); (refine TrA.effD 10 rfl (by kernel_rfl) (by kernel_rfl) (by exact .inl rfl) ?_); (((refine Knd.store ?_); ((refine Exec.storeN rfl rfl (tysOk.get rfl) rfl (by first | rfl | assumption) (by repeat (first | exact Upd.here | apply Upd.there)) (by omega) ?_)))); (refine ⟨_, fun _ h => h, ?_⟩); (refine TrA.done (by kernel_rfl) ?_))
  rw [Int.toNat_natCast i, flatMap_set spV_len (by omega) hyy (y := { y with amount := a }) rfl]
  have hy2 : (ys.set i { y with amount := a })[i]? = some { y with amount := a } := List.getElem?_set_self (List.getElem?_eq_some_iff.1 hyy).1
  (repeat ((with_reducible refine Tr.next ?_)))
  (((apply Tr.draw); (kernel_rfl)); (refine tkQ 0 (hB := by exact fun _ h => h) (s := by exact sfQ) ?_); (refine tkQ 2 (s := by exact Stab.move rfl) ?_); (refine tkQ 3 (s := by exact sfQ) ?_); (refine tkQ 5 (s := by exact Stab.move rfl) ?_); (refine tkQ 1 (s := by exact slQ) ?_); (refine tkQ 4 (s := by exact slQ) ?_); (refine tkQ 6 (s := by exact sxQ) ?_); (refine tkQ 7 (s := by exact sMQ) ?_); (refine tkQ 8 (s := by exact sxQ) ?_); (refine tkQ 9 (s := by exact Stab.fieldD rfl (tysOk.get rfl) rfl rfl (tysOk.get rfl) rfl) ?_); (refine TrA.effD 10 rfl (by kernel_rfl) (by kernel_rfl) (by exact .inl rfl) ?_); (((refine Knd.store ?_); ((refine Exec.storeN rfl rfl (tysOk.get rfl) rfl (by first | rfl | assumption) (by repeat (first | exact Upd.here | apply Upd.there)) (by omega) ?_)))); (refine ⟨_, fun _ h => h, ?_⟩); (refine TrA.done (by kernel_rfl) ?_))
  rw [Int.toNat_natCast i, flatMap_set spV_len (by omega) hy2 (y := setSup y a d) rfl, set_twice]
  (refine rQ ?_)
  refine Tr.again (i + 1, ys.set i (setSup y a d)) ⟨by simp only; omega, ?_⟩ (by simp only; omega) hsQ
  have := hup.step hy
  rw [resS, had, hdd] at this
  exact this
 have ei : i = k.sups.length := by omega
 subst ei
 obtain rfl := hup.fin ⟨0, 0, 0, 0, 0, 0⟩
 generalize hss : ((List.range k.sups.length).map fun i => resS s i (k.sups.getD i ⟨0, 0, 0, 0, 0, 0⟩)) = ss
 have hssl : ss.length = k.sups.length := by rw [← hss]; simp
 (refine rQ ?_)
 ((refine Tr.step rfl ?_))
 refine Exec.call (A := []) rfl (cloneR_fn M Ar cr k.reqs h2 (by omega)) (List.Perm.refl _) rfl ?_
 rintro _ _ _ - ⟨⟨A2, c2, rfl, hc2, rfl⟩, rfl⟩
 simp only [List.cons_append, List.nil_append]
 (refine rQ ?_)
 refine Tr.loop (α := Nat × List Rq) (fun y => ⟨74, [(45, .int .i64 (y.1 : Int)), (44, .int .i64 (k.reqs.length : Int)), (43, .slice A2 k.reqs.length c2), (4, .pointer (some ⟨b4, 0, none⟩)), (3, .pointer (some ⟨b3, 0, none⟩)), (2, .pointer (some ⟨b2, 0, none⟩))], [], M,
   ownS 52 6 A2 k.reqs.length c2 (y.2.flatMap rqV) :: ownS 72 6 A1 k.sups.length c1 (ss.flatMap spV) :: box b4 47 [.int .i64 0, .slice none 0 0, .slice none 0 0, .slice none 0 0, .slice none 0 0] :: box b3 89 [.slice Bf (fxB k).fits.length kf, .slice Ba s.am.length ka, .slice Bd s.dy.length kd, .slice Bn s.nd.length kn, .slice Bu (fxB k).due.length ku, .slice Bb s.br.length kb] :: box b2 47 [.int .i64 k.known, .slice A1 k.sups.length c1, .slice A2 k.reqs.length c2, .slice Af k.fits.length cf, .slice Ad k.reads cd] :: F⟩)
  (fun y => y.1 ≤ k.reqs.length ∧ upTo (resR s) k.reqs y.2 y.1) (fun y => k.reqs.length - y.1) (0, k.reqs) ⟨Nat.zero_le _, upTo.zero _ _⟩ hsQ (fun y hy => ?_)
 obtain ⟨i, ys⟩ := y
 obtain ⟨hi, hup⟩ := hy
 dsimp only at hi hup
 dsimp only
 by_cases hlt2 : i < k.reqs.length
 ·obtain ⟨y, hy⟩ := get_of_lt hlt2
  have hyy := hup.at hy
  obtain ⟨a, ha⟩ := get_of_lt (xs := s.nd) (i := i) (by omega)
  obtain ⟨d, hd⟩ := get_of_lt (xs := s.br) (i := i) (by omega)
  have had := getD_of (d := (0 : Int)) ha
  have hdd := getD_of (d := (0 : Int)) hd
  obtain ⟨hAa, hata⟩ := Ints.at q4 ha
  obtain ⟨hAd, hatd⟩ := Ints.at q6 hd
  have hstep := hup.step hy
  refine Tr.own_some A2 (e := 52) (sz := 6) (m := k.reqs.length) (c := c2) (xs := ys.flatMap rqV) (by repeat (first | exact Has.here | apply Has.there)) (by omega) (fun hA1 => ?_)
  (refine rQ ?_)
  (((apply Tr.draw); (kernel_rfl)); (refine tkQ 0 (hB := by exact fun _ h => h) (s := by exact sfQ) ?_); (refine tkQ 2 (s := by exact Stab.move rfl) ?_); (refine tkQ 3 (s := by exact sfQ) ?_); (refine tkQ 5 (s := by exact Stab.move rfl) ?_); (refine tkQ 1 (s := by exact slQ) ?_); (refine tkQ 4 (s := by exact slQ) ?_); (refine tkQ 6 (s := by exact sxQ) ?_); (refine tkQ 7 (s := by exact sMQ) ?_); (refine tkQ 8 (s := by exact sxQ) ?_); (refine tkQ 9 (s := by exact Stab.fieldD rfl (tysOk.get rfl) rfl rfl (tysOk.get rfl) rfl) ?_); (refine TrA.effD 10 rfl (by kernel_rfl) (by kernel_rfl) (by exact .inl rfl) ?_); (((refine Knd.store ?_); ((refine Exec.storeN rfl rfl (tysOk.get rfl) rfl (by first | rfl | assumption) (by repeat (first | exact Upd.here | apply Upd.there)) (by omega) ?_)))); (refine ⟨_, fun _ h => h, ?_⟩); (refine TrA.done (by kernel_rfl) ?_))
  rw [Int.toNat_natCast i, flatMap_set rqV_len (by omega) hyy (y := { y with amount := a }) rfl]
  have hy2 : (ys.set i { y with amount := a })[i]? = some { y with amount := a } := List.getElem?_set_self (List.getElem?_eq_some_iff.1 hyy).1
  by_cases hb : 0 ≤ d
  ·(repeat (first | ((with_reducible refine Tr.step rfl ?_); (first | (refine xmQ ?_) | ((with_reducible refine Knd.load ?_); (first | (refine xlQ ?_) | (refine xMQ ?_))) | ((with_reducible refine Knd.fieldAddr ?_); (first | (refine xfQ ?_) | (refine Exec.stab rfl (Stab.fieldD rfl (tysOk.get rfl) rfl rfl (tysOk.get rfl) rfl) rfl ?_))) | ((with_reducible refine Knd.binOp ?_); (first | (refine xdQ ?_) | (refine xiQ ?_))) | ((with_reducible refine Knd.store ?_); (refine Exec.storeN rfl rfl (tysOk.get rfl) rfl (by first | rfl | assumption) (by repeat (first | exact Upd.here | apply Upd.there)) (by omega) ?_)) | (refine xxQ ?_))) | (with_reducible first | apply Tr.next | apply Tr.seq | apply Tr.region | apply Tr.nil | apply Tr.in_normal) | (refine Tr.cond_t rfl (by (with_reducible assumption)) ?_)))
   rw [Int.toNat_natCast i, flatMap_set rqV_len (by omega) hy2 (y := setReq y 0) rfl, set_twice]
   rw [resR, had, hdd, if_pos hb] at hstep
   exact Tr.again (i + 1, ys.set i (setReq y 0)) ⟨by simp only; omega, hstep⟩ (by simp only; omega) hsQ
  ·(refine rQ ?_)
   rw [resR, had, hdd, if_neg hb] at hstep
   exact Tr.again (i + 1, ys.set i (setReq y a)) ⟨by simp only; omega, hstep⟩ (by simp only; omega) hsQ
 have ei : i = k.reqs.length := by omega
 subst ei
 obtain rfl := hup.fin ⟨0, 0, 0, 0, 0, 0⟩
 generalize hrs : ((List.range k.reqs.length).map fun i => resR s i (k.reqs.getD i ⟨0, 0, 0, 0, 0, 0⟩)) = rs
 have hrsl : rs.length = k.reqs.length := by rw [← hrs]; simp
 refine pbQ (r := ownS 72 6 A1 _ _ _) (fun M1 hm1 ok1 => ?_)
 have i1 := SlOf.ofOwn ok1 hssl.symm hc1 (Elems.flat (R := RSp) spV_len (fun _ => rfl) ss)
 refine pbQ (r := ownS 52 6 A2 _ _ _) (fun M2 hm2 ok2 => ?_)
 have i2 := SlOf.ofOwn ok2 hrsl.symm hc2 (Elems.flat (R := RRq) rqV_len (fun _ => rfl) rs)
 have hm12 := hm1.trans hm2
 (refine rQ ?_)
 ((refine Tr.step rfl ?_))
 refine Exec.call0 rfl (serving_fn M2 _ (fxB k) s (hS0.mono hm12) hf) rfl ?_
 rintro _ M3 hm3 ⟨A3, c3, rfl, ht⟩
 have hlast := hm12.trans hm3
 (refine rQ ?_)
 (refine Tr.done (by first | exact .inl rfl | exact .inr rfl) rfl (by repeat (first | exact RVs.nil | (apply RVs.cons; (exact RV.cellW (by rfl) (tysOk.get (by rfl)) (by rfl) (by repeat (first | exact Has.here | apply Has.there)) (by first | rfl | assumption))))) (by first | exact Mem.le.refl _ | assumption) (by exact ⟨[_, _, _], rfl⟩) ⟨rfl, ?_⟩)
 refine ⟨A1, c1, A2, c2, A3, c3, Ad, cd, ?_, ?_, ?_, ?_⟩
 ·show _ = Value.agg #[_, .slice _ (List.length _) _, .slice _ (List.length _) _, .slice _ (tabL k.fits (k.reqs.map (·.due)) s.dy).length _, _]
  rw [show (resF k s).sups.length = k.sups.length by simp [resF], show (resF k s).reqs.length = k.reqs.length by simp [resF]]
  rfl
 ·show SlOf 6 RSp M3 (.slice A1 (List.length ((List.range k.sups.length).map fun i => resS s i (k.sups.getD i ⟨0, 0, 0, 0, 0, 0⟩))) c1) ((List.range k.sups.length).map fun i => resS s i (k.sups.getD i ⟨0, 0, 0, 0, 0, 0⟩))
  rw [hss]
  exact i1.mono RSp.mono (hm2.trans hm3)
 ·show SlOf 6 RRq M3 (.slice A2 (List.length ((List.range k.reqs.length).map fun i => resR s i (k.reqs.getD i ⟨0, 0, 0, 0, 0, 0⟩))) c2) ((List.range k.reqs.length).map fun i => resR s i (k.reqs.getD i ⟨0, 0, 0, 0, 0, 0⟩))
  rw [hrs]
  exact i2.mono RRq.mono hm3
 ·exact ht
end Go.Proofs.Ytcadnjmcmegpjaa

/-
 Honour: attempt, Do.
 Conditions: none.
-/
namespace Go.Proofs.Ytcadnjmcmegpjaa
open Go Bf
attribute [local irreducible] Tr Exec Stab HasTy Go.Addr.add IntKind.wrap
def refDone : List PanicEntry := [{ v := .iface 48 (.int .i64 330), recovered := true }]
set_option maxHeartbeats 1000000 in
theorem att_panic (M : Mem) (b2 : Nat) (e0 : Value) :
  CD Try.prog 56 [.pointer (some ⟨b2, 0, none⟩)] (.panicking refCh) M [box b2 48 [e0]]
   (fun u' M' A' => u' = .panicking refDone ∧ M = M' ∧ A' = [box b2 48 [.int .i64 330]]) := by
 refine CD.intro1 Try.func56 rfl rfl Try.ntmps56 rfl rfl (v := .iface 48 (.int .i64 330)) (.inl ⟨[], rfl, rfl⟩) fun E F => ?_
 (repeat (first | ((with_reducible refine Tr.step rfl ?_); (first | (refine xmQ ?_) | (refine xaQ ?_) | ((with_reducible refine Knd.binOp ?_); (refine Exec.stab rfl (Stab.ifaceeq rfl (tysOk.get rfl) rfl) rfl ?_)) | (refine xSQ ?_) | ((with_reducible refine Knd.typeAssert ?_); (refine Exec.stab rfl (Stab.assertY rfl (tysOk.get rfl) rfl) rfl ?_)) | ((with_reducible refine Knd.extract ?_); (refine Exec.stab rfl (Stab.extract rfl rfl) rfl ?_)))) | (with_reducible first | apply Tr.next | apply Tr.seq | apply Tr.region | apply Tr.nil | apply Tr.block | apply Tr.in_normal) | (refine Tr.cond_bt rfl (by (with_reducible rfl)) ?_) | (refine Tr.cond_bf rfl (by (with_reducible rfl)) ?_)))
 refine Tr.doneC (by first | exact .inl rfl | exact .inr rfl) rfl (by repeat (exact RVs.nil)) (Mem.le.refl _) DropL.refl ⟨rfl, rfl, rfl⟩
set_option maxHeartbeats 1000000 in
theorem att_idle (M : Mem) (b2 : Nat) (A : List Res) :
  CD Try.prog 56 [.pointer (some ⟨b2, 0, none⟩)] .returning M A
   (fun u' M' A' => u' = .returning ∧ M = M' ∧ A' = A) := by
 refine CD.intro1 Try.func56 rfl rfl Try.ntmps56 rfl rfl (v := .nilIface) (.inr ⟨rfl, rfl, rfl⟩) fun E F => ?_
 (repeat (first | ((with_reducible refine Tr.step rfl ?_); (first | (refine xaQ ?_) | ((with_reducible refine Knd.binOp ?_); (refine Exec.stab rfl (Stab.nileq rfl (tysOk.get rfl) rfl) rfl ?_)))) | (with_reducible first | apply Tr.next | apply Tr.seq | apply Tr.region | apply Tr.nil | apply Tr.block | apply Tr.in_normal) | (refine Tr.cond_bt rfl (by (with_reducible rfl)) ?_)))
 refine Tr.doneC (by first | exact .inl rfl | exact .inr rfl) rfl (by repeat (exact RVs.nil)) (Mem.le.refl _) DropL.refl ⟨rfl, rfl, rfl⟩
set_option maxHeartbeats 2000000 in
theorem attempt_fn (M : Mem) (g : FuncId) (cap : List Value) (A : List Res) (R : Value → Mem → List Res → Prop) (RP : List PanicEntry → Mem → List Res → Prop) (hg : FnP Try.prog g cap M A R RP) (hch : ∀ ch M' A', RP ch M' A' → ch = refCh) :
  Bf.Fn Try.prog 22 [.func (.func g) #[] cap.toArray] M A (fun r M' A' => (r = .int .i64 0 ∧ ∃ v, R v M' A') ∨ (r = .int .i64 330 ∧ RP refCh M' A')) := by
 refine Fn.introD Try.func22 rfl rfl Try.ntmps22 rfl fun E F => ?_
 (repeat (first | ((with_reducible refine Tr.step rfl ?_); (first | ((with_reducible refine Knd.makeFunc ?_); (refine Exec.stab rfl (Stab.makeFunc rfl rfl) rfl ?_)) | ((with_reducible refine Knd.alloc ?_); (refine Exec.alloc1 (tysOk.get rfl) rfl rfl rfl (fun b => ?_))))) | (with_reducible first | apply Tr.next | apply Tr.seq | apply Tr.region | apply Tr.nil)))
 refine Tr.step rfl ?_
 refine Exec.defer (first := []) (vs := []) rfl rfl ?_
 (refine rQ ?_)
 ((refine Tr.step rfl ?_))
 refine Exec.callPv (first := []) (cap := cap) (vs := []) (A := A) (F := box b 48 [.int .i64 0] :: F) rfl rfl (by simpa using hg) List.perm_middle rfl (fun v M' A' hm hR => ?_) (fun ch M' A' hm hR => ?_)
 rotate_left
 ·obtain rfl := hch _ _ _ hR
  (repeat ((with_reducible refine Tr.then_panic ?_)))
  refine Tr.panicD (vs0 := []) (cap := [.pointer (some ⟨b, 0, none⟩)]) (A := [box b 48 [.int .i64 0]]) (F1 := A' ++ F) (att_panic M' b _) (show (box b 48 [.int .i64 0] :: (A' ++ F)).Perm (A' ++ box b 48 [.int .i64 0] :: F) from List.perm_middle.symm) rfl ?_
  rintro u' M'' A'' hm' ⟨rfl, rfl, rfl⟩
  exact ⟨rfl, _, (by repeat (first | exact RVs.nil | (apply RVs.cons; (exact RV.cell (by rfl) (tysOk.get (by rfl)) (by rfl) (by repeat (first | exact Has.here | apply Has.there)))))), hm, [box b 48 [.int .i64 330]], A', List.Perm.refl _, .inr ⟨rfl, hR⟩⟩
 refine Tr.reorder List.perm_middle.symm ?_
 (refine rQ ?_)
 refine Tr.doneD (vs0 := []) (cap := [.pointer (some ⟨b, 0, none⟩)]) (A := []) (by first | exact .inl rfl | exact .inr rfl) (att_idle M' b []) (List.Perm.refl _) rfl ?_
 rintro u' M'' A'' hm' ⟨rfl, rfl, rfl⟩
 exact ⟨rfl, _, (by repeat (first | exact RVs.nil | (apply RVs.cons; (exact RV.cell (by rfl) (tysOk.get (by rfl)) (by rfl) (by repeat (first | exact Has.here | apply Has.there)))))), hm, [box b 48 [.int .i64 0]], A', List.Perm.refl _, .inl ⟨rfl, v, hR⟩⟩
theorem RBk.open5 {M : Mem} {v : Value} {k : Bk} (h : RBk M v k) : ∃ v1 v2 v3 v4 v5, v = .agg #[v1, v2, v3, v4, v5] ∧ v1.oneCell' = true ∧ v2.oneCell' = true ∧ v3.oneCell' = true ∧ v4.oneCell' = true ∧ v5.oneCell' = true := by
 obtain ⟨As, cs, Ar, cr, Af, cf, Ad, cd, rfl, h1, h2, h3⟩ := h
 exact ⟨_, _, _, _, _, rfl, rfl, rfl, rfl, rfl, rfl⟩
theorem RBk.one5 {M : Mem} {v1 v2 v3 v4 v5 : Value} {k : Bk} (h : RBk M (.agg #[v1, v2, v3, v4, v5]) k) : v1.oneCell' = true ∧ v2.oneCell' = true ∧ v3.oneCell' = true ∧ v4.oneCell' = true ∧ v5.oneCell' = true := by
 obtain ⟨w1, w2, w3, w4, w5, e, o⟩ := h.open5
 injection e with e
 simp only [Array.mk.injEq, List.cons.injEq, and_true] at e
 obtain ⟨rfl, rfl, rfl, rfl, rfl⟩ := e
 exact o
set_option maxHeartbeats 4000000 in
theorem do1_fn (M : Mem) (k : Bk) (v1 v2 v3 v4 v5 : Value) (h : RBk M (.agg #[v1, v2, v3, v4, v5]) k) (A : Option Addr) (c : Nat) (l : List Hp) (hl : SlOf 5 RHp M (.slice A l.length c) l) (b2 b3 b4 : Nat) (z1 z2 z3 z4 z5 : Value) :
  FnP Try.prog 23 [.pointer (some ⟨b2, 0, none⟩), .pointer (some ⟨b3, 0, none⟩), .pointer (some ⟨b4, 0, none⟩)] M [box b2 47 [v1, v2, v3, v4, v5], box b3 41 [.slice A l.length c], box b4 47 [z1, z2, z3, z4, z5]]
   (fun _ M' A' => ∃ s u1 u2 u3 u4 u5, runF k l = some s ∧ RBk M' (.agg #[u1, u2, u3, u4, u5]) (resF k s) ∧ A' = [box b4 47 [u1, u2, u3, u4, u5]])
   (fun ch _ A' => ch = refCh ∧ runF k l = none ∧ A' = [box b4 47 [z1, z2, z3, z4, z5]]) := by
 refine FnP.intro Try.func23 rfl rfl Try.ntmps23 rfl fun E F => ?_
 (skip)
 (((apply Tr.draw); (kernel_rfl)); (refine tkQ 0 (hB := by exact fun _ h => h) (s := by exact swQ) ?_); (refine tkQ 1 (s := by exact swQ) ?_); (refine tkQ 2 (s := by exact slQ) ?_); (refine TrA.eff 3 rfl (by kernel_rfl) (by exact .inl rfl) ?_))
 refine Exec.callP rfl (run_fn M _ k h A c l hl) (List.Perm.refl _) rfl (fun v M' A' hm hR => ?_) (fun ch M' A' hm hR => ?_)
 rotate_left
 ·obtain ⟨rfl, rfl, hn⟩ := hR
  (skip)
  exact Tr.doneP (A' := [box b4 47 [z1, z2, z3, z4, z5]]) hm (DropL.skip (DropL.skip DropL.refl)) ⟨rfl, hn, rfl⟩
 obtain ⟨rfl, s, hs, hS⟩ := hR
 refine ⟨hm, (by exact fun _ h => h), ?_⟩
 obtain ⟨hfb, hfit, -⟩ := run_keep hs
 obtain ⟨e1, e2, e3, e4⟩ := run_len hs
 ((refine TrA.eff 4 rfl (by kernel_rfl) (by exact .inl rfl) ?_))
 refine Exec.call0 rfl (result_fn M' _ _ k s (h.mono hm) hS hfit e1 e2) rfl ?_
 rintro w M2 hm2 hB
 refine ⟨hm2, (by exact fun _ h => h), ?_⟩
 obtain ⟨u1, u2, u3, u4, u5, rfl, o1, o2, o3, o4, o5⟩ := hB.open5
 ((refine TrA.effD 5 rfl (by kernel_rfl) (by kernel_rfl) (by exact .inl rfl) ?_); (((refine Knd.store ?_); ((refine xWQ ?_)))); (refine ⟨_, fun _ h => h, ?_⟩); (refine TrA.done (by kernel_rfl) ?_))
 (skip)
 refine Tr.ofPost ?_
 refine Tr.doneB (A' := [box b4 47 [u1, u2, u3, u4, u5]]) [_, _] (by first | exact .inl rfl | exact .inr rfl) rfl (by repeat (exact RVs.nil)) (hm.trans hm2) (List.Perm.refl _) ⟨s, u1, u2, u3, u4, u5, hs, hB, rfl⟩
noncomputable def doF (k : Bk) (l : List Hp) : Bk × Int := match runF k l with
 | some s => (resF k s, 0)
 | none => (zB, 330)
theorem RBk.zero (M : Mem) : RBk M (.agg #[.int .i64 0, .slice none 0 0, .slice none 0 0, .slice none 0 0, .slice none 0 0]) zB :=
 ⟨none, 0, none, 0, none, 0, none, 0, rfl, SlOf.nil _ _ _, SlOf.nil _ _ _, SlOf.nil _ _ _⟩
theorem rev3 {α : Type} (a b c : α) (F : List α) : ([c, b, a] ++ F).Perm (a :: b :: c :: F) := (List.reverse_perm [a, b, c]).append_right F
set_option maxHeartbeats 4000000 in
theorem do_fn (M : Mem) (v : Value) (k : Bk) (h : RBk M v k) (A : Option Addr) (c : Nat) (l : List Hp) (hl : SlOf 5 RHp M (.slice A l.length c) l) :
  Fn0 Try.prog 8 [v, .slice A l.length c] M (fun r M' => ∃ w, r = .tuple #[w, .int .i64 (doF k l).2] ∧ RBk M' w (doF k l).1) := by
 obtain ⟨v1, v2, v3, v4, v5, rfl, o1, o2, o3, o4, o5⟩ := h.open5
 refine Fn.intro Try.func8 rfl rfl Try.ntmps8 rfl fun E F => ?_
 (repeat (first | ((with_reducible refine Tr.step rfl ?_); (first | (refine xaQ ?_) | ((with_reducible refine Knd.makeFunc ?_); (refine Exec.stab rfl (Stab.makeFunc rfl rfl) rfl ?_)) | ((with_reducible refine Knd.box ?_); (first | (refine Exec.box rfl rfl (fun b => ?_)) | (refine Exec.box1 rfl (by first | rfl | assumption) rfl (fun b => ?_)))) | ((with_reducible refine Knd.alloc ?_); (refine Exec.alloc (tysOk.get rfl) rfl rfl (fun b => ?_))))) | (with_reducible first | apply Tr.next | apply Tr.seq | apply Tr.region | apply Tr.nil)))
 generalize b = b4
 rename_i b2 b3
 ((refine Tr.step rfl ?_))
 refine Exec.call (A := [box b2 47 [v1, v2, v3, v4, v5], box b3 41 [.slice A l.length c], box b4 47 [.int .i64 0, .slice none 0 0, .slice none 0 0, .slice none 0 0, .slice none 0 0]]) rfl (attempt_fn M 23 [.pointer (some ⟨b2, 0, none⟩), .pointer (some ⟨b3, 0, none⟩), .pointer (some ⟨b4, 0, none⟩)] _ _ _ (do1_fn M k v1 v2 v3 v4 v5 h A c l hl b2 b3 b4 _ _ _ _ _) (fun ch M' A' h => h.1)) (rev3 _ _ _ _) rfl ?_
 rintro r M' A' hm (⟨rfl, -, s, u1, u2, u3, u4, u5, hs, hB, rfl⟩ | ⟨rfl, -, hn, rfl⟩)
 ·simp only [List.cons_append, List.nil_append]
  obtain ⟨p1, p2, p3, p4, p5⟩ := hB.one5
  (refine rQ ?_)
  (refine Tr.done (by first | exact .inl rfl | exact .inr rfl) rfl (by repeat (first | exact RVs.nil | (apply RVs.cons; (first | exact RV.tmp rfl | exact RV.cellW (by rfl) (tysOk.get (by rfl)) (by rfl) (by repeat (first | exact Has.here | apply Has.there)) (by first | rfl | assumption))))) (by first | exact Mem.le.refl _ | assumption) (by exact ⟨[_], rfl⟩) ⟨rfl, ?_⟩)
  rw [doF, hs]
  exact ⟨_, rfl, hB⟩
 ·simp only [List.cons_append, List.nil_append]
  (refine rQ ?_)
  (refine Tr.done (by first | exact .inl rfl | exact .inr rfl) rfl (by repeat (first | exact RVs.nil | (apply RVs.cons; (first | exact RV.tmp rfl | exact RV.cellW (by rfl) (tysOk.get (by rfl)) (by rfl) (by repeat (first | exact Has.here | apply Has.there)) (by first | rfl | assumption))))) (by first | exact Mem.le.refl _ | assumption) (by exact ⟨[_], rfl⟩) ⟨rfl, ?_⟩)
  rw [doF, hn]
  exact ⟨_, rfl, RBk.zero _⟩
end Go.Proofs.Ytcadnjmcmegpjaa

/-
 Honour: an element deleted, an element sought.
 Conditions: none.
-/
namespace Go.Proofs.Ytcadnjmcmegpjaa
open Go Bf
attribute [local irreducible] Tr Exec Stab HasTy Go.Addr.add IntKind.wrap
theorem erase_cells {cur : List Value} {l : List Int} {i : Nat} (hi : i < l.length) (hc : cur.take l.length = intV l) : (cur.take i ++ (cur.drop (i + 1)).take (l.length - (i + 1)) ++ cur.drop (l.length - 1)).take (l.length - 1) = intV (l.eraseIdx i) ∧ (cur.take i ++ (cur.drop (i + 1)).take (l.length - (i + 1)) ++ cur.drop (l.length - 1)).length = cur.length := by
 have hlen : l.length ≤ cur.length := by
  have := congrArg List.length hc
  rw [List.length_take, intV_length] at this
  omega
 have h1 : (cur.take i ++ (cur.drop (i + 1)).take (l.length - (i + 1))).length = l.length - 1 := by
  rw [List.length_append, List.length_take, List.length_take, List.length_drop]; omega
 refine ⟨?_, ?_⟩
 ·rw [List.take_append_of_le_length (by omega), List.take_of_length_le (by omega)]
  have e1 : cur.take i = (intV l).take i := by rw [← hc, List.take_take, Nat.min_eq_left (by omega)]
  have e2 : (cur.drop (i + 1)).take (l.length - (i + 1)) = (intV l).drop (i + 1) := by rw [← hc, List.drop_take]
  rw [e1, e2, List.eraseIdx_eq_take_drop_succ]
  simp [intV]
 ·rw [List.length_append, h1, List.length_drop]; omega
set_option maxHeartbeats 4000000 in
theorem delete_own (M : Mem) (A : Option Addr) (c : Nat) (l : List Int) (i : Nat) (hi : i < l.length) (hl : l.length ≤ 1000000) (hc : c ≤ 9223372036854775807) :
  Bf.Fn Try.prog 61 [.slice A l.length c, .int .i64 (i : Int), .int .i64 ((i : Int) + 1)] M [ownS 3 1 A l.length c (intV l)] (fun r M' A' => M = M' ∧ r = .slice A (l.length - 1) c ∧ A' = [ownS 3 1 A (l.length - 1) c (intV (l.eraseIdx i))]) := by
 refine Fn.intro Try.func61 rfl rfl Try.ntmps61 rfl fun E F => ?_
 refine Tr.own_open Del.here (by omega) (fun g cur hA hlc hcl hct => ?_)
 subst hA
 rw [Nat.mul_one] at hcl hct
 have hlen : l.length ≤ cur.length := by omega
 (repeat (first | ((with_reducible refine Tr.step rfl ?_); (first | (refine xmQ ?_) | (refine xaQ ?_) | (refine xnQ ?_) | (refine xiQ ?_) | ((with_reducible refine Knd.slice ?_); (refine Exec.stab rfl (Stab.slice_lhm rfl rfl rfl rfl (tysOk.get rfl) rfl (tysOk.get rfl) rfl (by omega) (by omega) (by omega) (by omega)) rfl ?_)))) | (with_reducible first | apply Tr.next | apply Tr.seq | apply Tr.region | apply Tr.nil | apply Tr.skip) | (refine Tr.cond_f rfl (by omega) ?_)))
 have hcell := erase_cells hi hct
 have hone : ∀ u ∈ (cur.drop (i + 1)).take (l.length - (i + 1)), u.oneCell' = true := fun u hu => by
  rw [← List.drop_take, hct] at hu
  exact intV_one l u (List.mem_of_mem_drop hu)
 have e1 : ((i : Int)).toNat = i := Int.toNat_natCast i
 have e2 : ((i : Int) + 1).toNat = i + 1 := by omega
 have e3 : i + (l.length - (i + 1)) = l.length - 1 := by omega
 (((apply Tr.draw); (kernel_rfl)); (refine tkQ 0 (hB := by exact fun _ h => h) (s := by exact Stab.move rfl) ?_); (refine tkQ 1 (s := by exact Stab.move rfl) ?_); (refine tkQ 3 (s := by exact Stab.move rfl) ?_); (refine tkQ 4 (s := by exact Stab.move rfl) ?_); (refine tkQ 2 (s := by exact Stab.slice_h rfl rfl (tysOk.get rfl) rfl (tysOk.get rfl) (by omega) (by omega)) ?_); (refine tkQ 5 (s := by exact Stab.slice_l rfl rfl (tysOk.get rfl) rfl (tysOk.get rfl) rfl (by omega) (by omega)) ?_); (refine TrA.effD 6 rfl (by kernel_rfl) (by kernel_rfl) (by exact .inl rfl) ?_))
 refine Exec.appendIn (j := i + 1) rfl rfl (by (rw [e2]); split; (exact ⟨_, rfl, .inl (by omega)⟩); (exact ⟨_, rfl, .inr (by simp [Addr.add])⟩)) (tysOk.get rfl) rfl (tysOk.get rfl) rfl (by omega) (by omega) (by omega) (by rw [e2]; exact hone) Upd.here rfl ?_
 refine ⟨_, fun _ h => h, ?_⟩
 rw [e1, e2, e3]
 obtain ⟨hc1, hc2⟩ := hcell
 generalize cur.take i ++ (cur.drop (i + 1)).take (l.length - (i + 1)) ++ cur.drop (l.length - 1) = cur2 at hc1 hc2
 clear hct hone
 ((refine tkQ 7 (s := by exact Stab.assign rfl) ?_); (refine TrA.done (by kernel_rfl) ?_))
 (repeat (first | ((with_reducible refine Tr.step rfl ?_); (first | (refine xmQ ?_) | (refine xnQ ?_) | ((with_reducible refine Knd.slice ?_); (refine Exec.stab rfl (Stab.slice_lh rfl rfl rfl (tysOk.get rfl) rfl (tysOk.get rfl) rfl (by omega) (by omega) (by omega)) rfl ?_)))) | (with_reducible first | apply Tr.next | apply Tr.seq | apply Tr.region)))
 have e4 : (((l.length - 1 : Nat) : Int)).toNat = l.length - 1 := Int.toNat_natCast _
 have e5 : ((l.length : Int)).toNat = l.length := Int.toNat_natCast _
 rw [e4, e5]
 ((refine Tr.step rfl ?_))
 refine Exec.clearAt (o := l.length - 1) (m := 1) (cs := cur2) (z := .int .i64 0) (c := c - (l.length - 1)) (by
  rw [if_neg (by omega), show l.length - (l.length - 1) = 1 by omega]
  simp [ev, look_cons_eq, Addr.add]; omega) (tysOk.get rfl) rfl (tysOk.get rfl) rfl rfl rfl Upd.here (by omega) (by omega) ?_
 have hc3 : (cur2.take (l.length - 1) ++ List.replicate 1 (Value.int .i64 0) ++ cur2.drop (l.length - 1 + 1)).take ((l.length - 1) * 1) = intV (l.eraseIdx i) := by
  rw [Nat.mul_one, List.append_assoc, List.take_append_of_le_length (by rw [List.length_take]; omega), List.take_of_length_le (by rw [List.length_take]; omega)]
  exact hc1
 have hc4 : (cur2.take (l.length - 1) ++ List.replicate 1 (Value.int .i64 0) ++ cur2.drop (l.length - 1 + 1)).length = c * 1 := by
  simp only [List.length_append, List.length_take, List.length_drop, List.length_replicate]; omega
 generalize cur2.take (l.length - 1) ++ List.replicate 1 (Value.int .i64 0) ++ cur2.drop (l.length - 1 + 1) = cur3 at hc3 hc4
 refine Tr.box_ownC 1 (l.length - 1) c Upd.here hc4 (by omega) hc hc3 (intV_one _) ?_
 (refine rQ ?_)
 refine Tr.doneA (A' := [ownS 3 1 (some ⟨g, 0, none⟩) (l.length - 1) c (intV (l.eraseIdx i))]) (by first | exact .inl rfl | exact .inr rfl) rfl (by repeat (first | exact RVs.nil | (apply RVs.cons; (exact RV.tmp rfl)))) (Mem.le.refl _) ⟨fun _ h => h, fun h => h⟩ ⟨rfl, rfl, rfl⟩
set_option maxHeartbeats 4000000 in
theorem index_fn (M : Mem) (A : Option Addr) (c : Nat) (l : List Int) (x : Int) (h : Ints M (.slice A l.length c) l) :
  Fn0 Try.prog 88 [.slice A l.length c, .int .i64 x] M (fun r M' => (∃ z : Int, r = .int .i64 z ∧ ((0 ≤ z ∧ x ∈ l) ∨ (z = -1 ∧ x ∉ l))) ∧ M = M') := by
 have hll := h.len_le
 refine Fn.intro Try.func88 rfl rfl Try.ntmps88 rfl fun E F => ?_
 (refine rQ ?_)
 refine Tr.loop (α := Nat) (fun y => ⟨19, [(8, .int .i64 (y : Int)), (7, .int .i64 (l.length : Int)), (6, .slice A l.length c), (4, .int .i64 0), (0, .slice A l.length c), (1, .int .i64 x)], [], M, [] ++ F⟩)
  (fun y => y ≤ l.length ∧ ∀ t u, t < y → l[t]? = some u → u ≠ x) (fun y => l.length - y) 0 ⟨Nat.zero_le _, fun t _ ht => by omega⟩ hsQ (fun i hi => ?_)
 obtain ⟨hi, hall⟩ := hi
 by_cases hlt : i < l.length
 ·obtain ⟨u, hu⟩ := get_of_lt hlt
  obtain ⟨hA, hat⟩ := Ints.at h hu
  by_cases e : x = u
  ·(refine rQ ?_)
   (refine dnQ (hL := by exact ⟨[], rfl⟩) ⟨rfl, ?_⟩)
   exact ⟨⟨(i : Int), rfl, .inl ⟨by omega, e ▸ List.mem_of_getElem? hu⟩⟩, rfl⟩
  ·(refine rQ ?_)
   refine Tr.again (i + 1) ⟨by omega, fun t w ht hw => ?_⟩ (by omega) hsQ
   by_cases ht2 : t < i
   ·exact hall t w ht2 hw
   ·have : t = i := by omega
    subst this
    rw [hu] at hw
    cases hw
    exact fun h => e h.symm
 have ei : i = l.length := by omega
 subst ei
 (refine rQ ?_)
 (refine dnQ (hL := by exact ⟨[], rfl⟩) ⟨rfl, ?_⟩)
 refine ⟨⟨-1, rfl, .inr ⟨rfl, fun hm => ?_⟩⟩, rfl⟩
 obtain ⟨t, ht, e⟩ := List.getElem_of_mem hm
 exact hall t _ ht (List.getElem?_eq_getElem ht) e
set_option maxHeartbeats 4000000 in
theorem contains_fn (M : Mem) (A : Option Addr) (c : Nat) (l : List Int) (x : Int) (h : Ints M (.slice A l.length c) l) :
  Fn0 Try.prog 63 [.slice A l.length c, .int .i64 x] M (fun r M' => (∃ b : Bool, r = .bool b ∧ (b = true ↔ x ∈ l)) ∧ M = M') := by
 refine Fn.intro Try.func63 rfl rfl Try.ntmps63 rfl fun E F => ?_
 (refine rQ ?_)
 ((refine Tr.step rfl ?_)); refine Exec.call0 rfl (index_fn M A c l x h) rfl ?_
 rintro _ _ _ ⟨⟨z, rfl, hz⟩, rfl⟩
 (refine rQ ?_)
 (refine dnQ (hL := by exact ⟨[], rfl⟩) ⟨rfl, ?_⟩)
 refine ⟨⟨_, rfl, ?_⟩, rfl⟩
 rw [decide_eq_true_iff]
 rcases hz with ⟨h1, h2⟩ | ⟨h1, h2⟩
 ·exact ⟨fun _ => h2, fun _ => h1⟩
 ·exact ⟨fun h => by omega, fun h => absurd h h2⟩
end Go.Proofs.Ytcadnjmcmegpjaa

/-
 Honour: begin, with what it made handed out.
 Conditions: none.
-/
namespace Go.Proofs.Ytcadnjmcmegpjaa
open Go Bf
attribute [local irreducible] Tr Exec Stab HasTy Go.Addr.add IntKind.wrap
theorem perm52 {α : Type} (a b c d e f g : α) (F : List α) : (a :: b :: c :: d :: e :: f :: g :: F).Perm (f :: g :: a :: b :: c :: d :: e :: F) := (List.perm_append_comm (l₁ := [a, b, c, d, e]) (l₂ := [f, g])).append_right F
set_option maxHeartbeats 8000000 in
theorem hbegin_own (M : Mem) (v : Value) (k : Bk) (h : RBk M v k) (hs : k.sups.length ≤ 1000000) (hr : k.reqs.length ≤ 1000000) :
  Bf.Fn Try.prog 27 [v] M [] (fun r M' A' => M = M' ∧ ∃ Af cf A1 c1 A2 c2 A3 c3 A4 c4 A5 c5, r = .agg #[.slice Af k.fits.length cf, .slice A1 k.sups.length c1, .slice A2 k.sups.length c2, .slice A3 k.reqs.length c3, .slice A4 k.reqs.length c4, .slice A5 k.reqs.length c5] ∧
   Fits2 M (.slice Af k.fits.length cf) k.fits ∧ (c1 ≤ 9223372036854775807 ∧ c2 ≤ 9223372036854775807 ∧ c3 ≤ 9223372036854775807 ∧ c4 ≤ 9223372036854775807 ∧ c5 ≤ 9223372036854775807) ∧
   A' = [ownS 3 1 A3 k.reqs.length c3 (intV (beginF k).nd), ownS 3 1 A4 k.reqs.length c4 (intV (fxB k).due), ownS 3 1 A5 k.reqs.length c5 (intV (beginF k).br), ownS 3 1 A1 k.sups.length c1 (intV (beginF k).am), ownS 3 1 A2 k.sups.length c2 (intV (beginF k).dy)]) := by
 obtain ⟨As, cs, Ar, cr, Af, cf, Ad, cd, rfl, h1, h2, h3⟩ := h
 refine Fn.intro Try.func27 rfl rfl Try.ntmps27 rfl fun E F => ?_
 (repeat (first | ((with_reducible refine Tr.step rfl ?_); (first | (refine xmQ ?_) | (refine xlQ ?_) | (refine xfQ ?_) | (refine xnQ ?_) | (refine xSQ ?_) | ((with_reducible refine Knd.box ?_); (refine Exec.box rfl rfl (fun b => ?_))) | ((with_reducible refine Knd.alloc ?_); (refine Exec.alloc (tysOk.get rfl) rfl rfl (fun b => ?_))))) | (with_reducible first | apply Tr.next | apply Tr.seq | apply Tr.region | apply Tr.nil | apply Tr.block)))
 rename_i b1
 generalize b = b2
 refine Tr.own_nil 3 1 ?_
 refine Tr.own_nil 3 1 ?_
 refine Tr.loop (α := Nat × (Option Addr × Nat) × (Option Addr × Nat)) (fun y => ⟨60, [(13, .int .i64 (y.1 : Int)), (12, .int .i64 (k.sups.length : Int)), (11, .slice As k.sups.length cs), (2, .pointer (some ⟨b2, 0, none⟩)), (1, .pointer (some ⟨b1, 0, none⟩))], [], M,
   ownS 3 1 y.2.1.1 y.1 y.2.1.2 (intV ((k.sups.take y.1).map (·.amount))) :: ownS 3 1 y.2.2.1 y.1 y.2.2.2 (intV ((k.sups.take y.1).map (·.ready))) :: box b2 89 [.slice Af k.fits.length cf, .slice y.2.1.1 y.1 y.2.1.2, .slice y.2.2.1 y.1 y.2.2.2, .slice none 0 0, .slice none 0 0, .slice none 0 0] :: box b1 47 [.int .i64 k.known, .slice As k.sups.length cs, .slice Ar k.reqs.length cr, .slice Af k.fits.length cf, .slice Ad k.reads cd] :: ([] ++ F)⟩)
  (fun y => y.1 ≤ k.sups.length ∧ y.2.1.2 ≤ 9223372036854775807 ∧ y.2.2.2 ≤ 9223372036854775807) (fun y => k.sups.length - y.1) (0, (none, 0), (none, 0)) ⟨Nat.zero_le _, by show (0 : Nat) ≤ _; omega, by show (0 : Nat) ≤ _; omega⟩ hsQ (fun y hy => ?_)
 obtain ⟨i, ⟨A1, c1⟩, ⟨A2, c2⟩⟩ := y
 obtain ⟨hi, hc1, hc2⟩ := hy
 simp only at hi hc1 hc2
 dsimp only
 by_cases hlt : i < k.sups.length
 ·obtain ⟨y, hy⟩ := get_of_lt hlt
  obtain ⟨hA, ch, hat, rfl⟩ := h1.elem hy
  have e1 := map_take_succ (·.amount) hy
  have e2 := map_take_succ (·.ready) hy
  (repeat (first | ((with_reducible refine Tr.step rfl ?_); (first | ((with_reducible refine Knd.load ?_); (first | (refine xlQ ?_) | (refine Exec.stab rfl (Stab.loadMA rfl (tysOk.get rfl) rfl (by assumption) (by first | rfl | assumption)) rfl ?_))) | (refine xfQ ?_) | (refine xiQ ?_) | (refine xWQ ?_) | ((with_reducible refine Knd.alloc ?_); (refine Exec.alloc (tysOk.get rfl) rfl rfl (fun b => ?_))) | (refine xxQ ?_) | ((with_reducible refine Knd.buildSlice ?_); (refine Exec.buildSlice (tysOk.get rfl) rfl (tysOk.get rfl) rfl rfl rfl rfl rfl (by repeat (first | exact BuildP.nil | ((apply BuildP.one); (rfl); (rfl); (first | rfl | assumption); (repeat (first | exact SetL.z | apply SetL.s))))) rfl (fun b => ?_))))) | (with_reducible first | apply Tr.next | apply Tr.seq | apply Tr.region | apply Tr.nil | apply Tr.skip | apply Tr.block) | (refine Tr.cond_t rfl (by first | (with_reducible assumption) | omega) ?_)))
  rename_i b4
  ((refine Tr.step rfl ?_))
  refine Exec.append (news := [.int .i64 (y.amount)]) rfl rfl (tysOk.get rfl) rfl (tysOk.get rfl) rfl rfl rfl rfl (by repeat (first | exact Del.here | apply Del.there)) (Src.box (by repeat (first | exact Has.here | apply Has.there))) rfl (by intro u hu; simp at hu; subst hu; rfl) (by omega) (by omega) rfl (fun A3 c3 hc3 => ?_)
  refine gvQ (r := box b 3 _) ?_
  rw [show intV ((k.sups.take i).map (·.amount)) ++ [Value.int .i64 y.amount] = intV ((k.sups.take (i + 1)).map (·.amount)) by rw [e1, intV_append]; rfl]
  (repeat (first | ((with_reducible refine Tr.step rfl ?_); (first | (refine xlQ ?_) | (refine xfQ ?_) | (refine xSQ ?_) | ((with_reducible refine Knd.buildSlice ?_); (refine Exec.buildSlice (tysOk.get rfl) rfl (tysOk.get rfl) rfl rfl rfl rfl rfl (by repeat (first | exact BuildP.nil | ((apply BuildP.one); (rfl); (rfl); (first | rfl | assumption); (repeat (first | exact SetL.z | apply SetL.s))))) rfl (fun b => ?_))))) | (with_reducible first | apply Tr.next | apply Tr.region | apply Tr.nil)))
  ((refine Tr.step rfl ?_))
  refine Exec.append (news := [.int .i64 (y.ready)]) rfl rfl (tysOk.get rfl) rfl (tysOk.get rfl) rfl rfl rfl rfl (by repeat (first | exact Del.here | apply Del.there)) (Src.box (by repeat (first | exact Has.here | apply Has.there))) rfl (by intro u hu; simp at hu; subst hu; rfl) (by omega) (by omega) rfl (fun A4 c4 hc4 => ?_)
  refine gvQ (r := box b 3 _) ?_
  rw [show intV ((k.sups.take i).map (·.ready)) ++ [Value.int .i64 y.ready] = intV ((k.sups.take (i + 1)).map (·.ready)) by rw [e2, intV_append]; rfl]
  (refine rQ ?_)
  refine gvQ (r := box b4 _ _) ?_
  refine ftQ (r := ownS 3 1 A3 _ _ _) ?_
  exact Tr.again (i + 1, (A3, c3), (A4, c4)) ⟨by simp only; omega, hc3, hc4⟩ (by simp only; omega) hsQ
 have ei : i = k.sups.length := by omega
 subst ei
 rw [List.take_length]
 (refine rQ ?_)
 refine Tr.own_nil 3 1 ?_
 refine Tr.own_nil 3 1 ?_
 refine Tr.own_nil 3 1 ?_
 refine Tr.loop (α := Nat × (Option Addr × Nat) × (Option Addr × Nat) × (Option Addr × Nat)) (fun y => ⟨60, [(35, .int .i64 (y.1 : Int)), (34, .int .i64 (k.reqs.length : Int)), (33, .slice Ar k.reqs.length cr), (2, .pointer (some ⟨b2, 0, none⟩)), (1, .pointer (some ⟨b1, 0, none⟩))], [], M,
   ownS 3 1 y.2.1.1 y.1 y.2.1.2 (intV ((k.reqs.take y.1).map (·.amount))) :: ownS 3 1 y.2.2.1.1 y.1 y.2.2.1.2 (intV ((k.reqs.take y.1).map (·.due))) :: ownS 3 1 y.2.2.2.1 y.1 y.2.2.2.2 (intV ((k.reqs.take y.1).map fun _ => -1)) :: ownS 3 1 A1 k.sups.length c1 (intV (k.sups.map (·.amount))) :: ownS 3 1 A2 k.sups.length c2 (intV (k.sups.map (·.ready))) :: box b2 89 [.slice Af k.fits.length cf, .slice A1 k.sups.length c1, .slice A2 k.sups.length c2, .slice y.2.1.1 y.1 y.2.1.2, .slice y.2.2.1.1 y.1 y.2.2.1.2, .slice y.2.2.2.1 y.1 y.2.2.2.2] :: box b1 47 [.int .i64 k.known, .slice As k.sups.length cs, .slice Ar k.reqs.length cr, .slice Af k.fits.length cf, .slice Ad k.reads cd] :: ([] ++ F)⟩)
  (fun y => y.1 ≤ k.reqs.length ∧ y.2.1.2 ≤ 9223372036854775807 ∧ y.2.2.1.2 ≤ 9223372036854775807 ∧ y.2.2.2.2 ≤ 9223372036854775807) (fun y => k.reqs.length - y.1) (0, (none, 0), (none, 0), (none, 0)) ⟨Nat.zero_le _, by show (0 : Nat) ≤ _; omega, by show (0 : Nat) ≤ _; omega, by show (0 : Nat) ≤ _; omega⟩ hsQ (fun y hy => ?_)
 obtain ⟨i, ⟨A3, c3⟩, ⟨A4, c4⟩, ⟨A5, c5⟩⟩ := y
 obtain ⟨hi, hc3, hc4, hc5⟩ := hy
 simp only at hi hc3 hc4 hc5
 dsimp only
 by_cases hlt2 : i < k.reqs.length
 ·obtain ⟨y, hy⟩ := get_of_lt hlt2
  obtain ⟨hA, ch, hat, rfl⟩ := h2.elem hy
  have e1 := map_take_succ (·.amount) hy
  have e2 := map_take_succ (·.due) hy
  have e3 := map_take_succ (fun _ : Rq => (-1 : Int)) hy
  (repeat (first | ((with_reducible refine Tr.step rfl ?_); (first | ((with_reducible refine Knd.load ?_); (first | (refine xlQ ?_) | (refine Exec.stab rfl (Stab.loadMA rfl (tysOk.get rfl) rfl (by assumption) (by first | rfl | assumption)) rfl ?_))) | (refine xfQ ?_) | (refine xiQ ?_) | (refine xWQ ?_) | ((with_reducible refine Knd.alloc ?_); (refine Exec.alloc (tysOk.get rfl) rfl rfl (fun b => ?_))) | (refine xxQ ?_) | ((with_reducible refine Knd.buildSlice ?_); (refine Exec.buildSlice (tysOk.get rfl) rfl (tysOk.get rfl) rfl rfl rfl rfl rfl (by repeat (first | exact BuildP.nil | ((apply BuildP.one); (rfl); (rfl); (first | rfl | assumption); (repeat (first | exact SetL.z | apply SetL.s))))) rfl (fun b => ?_))))) | (with_reducible first | apply Tr.next | apply Tr.seq | apply Tr.region | apply Tr.nil | apply Tr.skip | apply Tr.block) | (refine Tr.cond_t rfl (by first | (with_reducible assumption) | omega) ?_)))
  rename_i b4
  ((refine Tr.step rfl ?_))
  refine Exec.append (news := [.int .i64 (y.amount)]) rfl rfl (tysOk.get rfl) rfl (tysOk.get rfl) rfl rfl rfl rfl (by repeat (first | exact Del.here | apply Del.there)) (Src.box (by repeat (first | exact Has.here | apply Has.there))) rfl (by intro u hu; simp at hu; subst hu; rfl) (by omega) (by omega) rfl (fun A6 c6 hc6 => ?_)
  refine gvQ (r := box b 3 _) ?_
  rw [show intV ((k.reqs.take i).map (·.amount)) ++ [Value.int .i64 y.amount] = intV ((k.reqs.take (i + 1)).map (·.amount)) by rw [e1, intV_append]; rfl]
  (repeat (first | ((with_reducible refine Tr.step rfl ?_); (first | (refine xlQ ?_) | (refine xfQ ?_) | (refine xSQ ?_) | ((with_reducible refine Knd.buildSlice ?_); (refine Exec.buildSlice (tysOk.get rfl) rfl (tysOk.get rfl) rfl rfl rfl rfl rfl (by repeat (first | exact BuildP.nil | ((apply BuildP.one); (rfl); (rfl); (first | rfl | assumption); (repeat (first | exact SetL.z | apply SetL.s))))) rfl (fun b => ?_))))) | (with_reducible first | apply Tr.next | apply Tr.seq | apply Tr.region | apply Tr.nil)))
  ((refine Tr.step rfl ?_))
  refine Exec.append (news := [.int .i64 (y.due)]) rfl rfl (tysOk.get rfl) rfl (tysOk.get rfl) rfl rfl rfl rfl (by repeat (first | exact Del.here | apply Del.there)) (Src.box (by repeat (first | exact Has.here | apply Has.there))) rfl (by intro u hu; simp at hu; subst hu; rfl) (by omega) (by omega) rfl (fun A7 c7 hc7 => ?_)
  refine gvQ (r := box b 3 _) ?_
  rw [show intV ((k.reqs.take i).map (·.due)) ++ [Value.int .i64 y.due] = intV ((k.reqs.take (i + 1)).map (·.due)) by rw [e2, intV_append]; rfl]
  (repeat (first | ((with_reducible refine Tr.step rfl ?_); (first | (refine xlQ ?_) | (refine xfQ ?_) | (refine xSQ ?_) | ((with_reducible refine Knd.buildSlice ?_); (refine Exec.buildSlice (tysOk.get rfl) rfl (tysOk.get rfl) rfl rfl rfl rfl rfl (by repeat (first | exact BuildP.nil | ((apply BuildP.one); (rfl); (rfl); (first | rfl | assumption); (repeat (first | exact SetL.z | apply SetL.s))))) rfl (fun b => ?_))))) | (with_reducible first | apply Tr.next | apply Tr.region | apply Tr.nil)))
  ((refine Tr.step rfl ?_))
  refine Exec.append (news := [.int .i64 (-1)]) rfl rfl (tysOk.get rfl) rfl (tysOk.get rfl) rfl rfl rfl rfl (by repeat (first | exact Del.here | apply Del.there)) (Src.box (by repeat (first | exact Has.here | apply Has.there))) rfl (by intro u hu; simp at hu; subst hu; rfl) (by omega) (by omega) rfl (fun A8 c8 hc8 => ?_)
  refine gvQ (r := box b 3 _) ?_
  rw [show intV ((k.reqs.take i).map fun _ => -1) ++ [Value.int .i64 (-1)] = intV ((k.reqs.take (i + 1)).map fun _ => -1) by rw [e3, intV_append]; rfl]
  (refine rQ ?_)
  refine gvQ (r := box b4 _ _) ?_
  refine ftQ (r := ownS 3 1 A7 _ _ _) ?_
  refine ftQ (r := ownS 3 1 A6 _ _ _) ?_
  exact Tr.again (i + 1, (A6, c6), (A7, c7), (A8, c8)) ⟨by simp only; omega, hc6, hc7, hc8⟩ (by simp only; omega) hsQ
 have ei : i = k.reqs.length := by omega
 subst ei
 rw [List.take_length]
 (refine rQ ?_)
 refine Tr.doneB (A' := [ownS 3 1 A3 k.reqs.length c3 (intV (beginF k).nd), ownS 3 1 A4 k.reqs.length c4 (intV (fxB k).due), ownS 3 1 A5 k.reqs.length c5 (intV (beginF k).br), ownS 3 1 A1 k.sups.length c1 (intV (beginF k).am), ownS 3 1 A2 k.sups.length c2 (intV (beginF k).dy)]) [box _ 89 _, box _ 47 _] (by first | exact .inl rfl | exact .inr rfl) rfl (by repeat (first | exact RVs.nil | (apply RVs.cons; (exact RV.cellW (by rfl) (tysOk.get (by rfl)) (by rfl) (by repeat (first | exact Has.here | apply Has.there)) (by first | rfl | assumption))))) (Mem.le.refl _) (perm52 _ _ _ _ _ _ _ _)
  ⟨rfl, Af, cf, A1, c1, A2, c2, A3, c3, A4, c4, A5, c5, rfl, h3, ⟨hc1, hc2, hc3, hc4, hc5⟩, rfl⟩
end Go.Proofs.Ytcadnjmcmegpjaa

/-
 Honour: without.
 Conditions: none.
-/
namespace Go.Proofs.Ytcadnjmcmegpjaa
open Go Bf
attribute [local irreducible] Tr Exec Stab HasTy Go.Addr.add IntKind.wrap
theorem steps_amt {x : Fx} : ∀ {l : List Hp} {s s' : St} {at_ : Nat}, stepsF x s at_ l = some s' → Fit x s → ∀ h ∈ l, h.kind ≠ 2 → 1 ≤ h.amt ∧ h.amt ≤ 1048576
 | [], s, s', at_, _, _, h, hh, _ => by cases hh
 | y :: l, s, s', at_, e, hf, h, hh, hk => by
  rw [stepsF] at e
  cases hs : stepF x s y at_ with
  | none => rw [hs] at e; cases e
  | some t =>
   rw [hs] at e
   have st := stepF_some.1 hs
   rcases List.mem_cons.1 hh with rfl | hh
   ·cases st with
    | lose i k e1 e2 e3 e4 => have := getD_rng hf.amr i; omega
    | late i k => exact absurd k hk
    | ship i j k e1 f1 e2 f2 e3 e4 e5 e6 e7 e8 e9 => have := getD_rng hf.amr i; omega
   ·exact steps_amt (l := l) e (st.keep hf).1 h hh hk
theorem run_amt {k : Bk} {l : List Hp} {s : St} (h : runF k l = some s) : ∀ z ∈ l, z.kind ≠ 2 → 1 ≤ z.amt ∧ z.amt ≤ 1048576 := by
 obtain ⟨hv, hs⟩ := run_steps h
 exact steps_amt hs (begin_fit hv.1)
theorem foldl_take {α β : Type} (f : β → α → β) (l : List α) (s : β) {i : Nat} {y : α} (h : l[i]? = some y) : (l.take (i + 1)).foldl f s = f ((l.take i).foldl f s) y := by
 rw [List.take_add_one, h, List.foldl_append]; rfl
theorem map_take1 {α β : Type} (f : α → β) {l : List α} {i : Nat} {y : α} (h : l[i]? = some y) : (l.map f)[i]? = some (f y) := by simp [h]
theorem shipF_at {s : St} {i q : Nat} {a u day amt : Int} (ha : s.am[i]? = some a) (hu : s.nd[q]? = some u) : shipF s ⟨3, (i : Int), (q : Int), day, amt⟩ = { s with am := s.am.set i (a - amt), nd := s.nd.set q (u - amt) } := by
 rw [shipF, if_pos rfl]
 show (⟨s.am.set (i : Int).toNat (s.am.getD (i : Int).toNat 0 - amt), s.dy, s.nd.set (q : Int).toNat (s.nd.getD (q : Int).toNat 0 - amt), s.br⟩ : St) = _
 rw [Int.toNat_natCast, Int.toNat_natCast, getD_of (d := (0 : Int)) ha, getD_of (d := (0 : Int)) hu]
theorem lossF_lose {s : St} {i : Nat} {a req day amt : Int} (ha : s.am[i]? = some a) : lossF s ⟨1, (i : Int), req, day, amt⟩ = { s with am := s.am.set i (a - amt) } := by
 rw [lossF, if_pos rfl]
 show (⟨s.am.set (i : Int).toNat (s.am.getD (i : Int).toNat 0 - amt), s.dy, s.nd, s.br⟩ : St) = _
 rw [Int.toNat_natCast, getD_of (d := (0 : Int)) ha]
theorem lossF_late {s : St} {i : Nat} {d kd req day amt : Int} (hk : kd ≠ 1) (hd : s.dy[i]? = some d) : lossF s ⟨kd, (i : Int), req, day, amt⟩ = { s with dy := s.dy.set i (max d day) } := by
 rw [lossF, if_neg (show ¬ kd = 1 from hk)]
 show (⟨s.am, s.dy.set (i : Int).toNat (max (s.dy.getD (i : Int).toNat 0) day), s.nd, s.br⟩ : St) = _
 rw [Int.toNat_natCast, getD_of (d := (0 : Int)) hd]
def Rg (i : Nat) (l : List Int) : Prop := ∀ a ∈ l, -((i : Int) * 1048576) ≤ a ∧ a ≤ 1048576
theorem Rg.set {i : Nat} {l : List Int} (h : Rg i l) {a amt : Int} (ha : a ∈ l) (h1 : 1 ≤ amt ∧ amt ≤ 1048576) (q : Nat) : Rg (i + 1) (l.set q (a - amt)) := fun z hz => by
 have h2 := h a ha
 rcases List.mem_or_eq_of_mem_set hz with hz | rfl
 ·have := h z hz; omega
 ·omega
theorem Rg.next {i : Nat} {l : List Int} (h : Rg i l) : Rg (i + 1) l := fun z hz => by have := h z hz; omega
theorem brI_next {br : List Int} {n i j : Nat} {a : Int} (hn : br.length = n) (ha : br[i]? = some a) : ((brB br j).take i ++ List.replicate (n - i) (-1 : Int)).set i (if 0 ≤ a ∧ a < (j : Int) then a else -1) = (brB br j).take (i + 1) ++ List.replicate (n - (i + 1)) (-1) := by
 have hi := (List.getElem?_eq_some_iff.1 ha).1
 rw [set_mid _ _ _ _ _ (by rw [List.length_take, brB_length]; omega) (by omega)]
 congr 1
 rw [List.take_add_one]
 congr 1
 simp [brB, ha]
end Go.Proofs.Ytcadnjmcmegpjaa

/-
 Honour: without.
 Conditions: none.
-/
namespace Go.Proofs.Ytcadnjmcmegpjaa
open Go Bf
attribute [local irreducible] Tr Exec Stab HasTy Go.Addr.add IntKind.wrap
theorem nats__get {l : List Nat} {i t : Nat} (h : l[i]? = some t) : (nats_ l)[i]? = some (t : Int) := by simp [nats_, h]
set_option maxHeartbeats 16000000 in
theorem without_fn (M : Mem) (vb vs : Value) (k : Bk) (hB : RBk M vb k) (A : Option Addr) (c : Nat) (l : List Hp) (hl : SlOf 5 RHp M (.slice A l.length c) l) (s : St) (hS : RSt M vs (fxB k) s) (hrun : runF k l = some s) (j : Nat) (hj : j ≤ l.length)
  (Ai : Option Addr) (ci : Nat) (idx : List Nat) (hx : Ints M (.slice Ai idx.length ci) (nats_ idx)) (hidx : ∀ t ∈ idx, t < l.length ∧ (l.getD t zH).kind ≠ 3) (hll : l.length ≤ 1000) (hil : idx.length ≤ 1000) :
  Fn0 Try.prog 62 [vb, .slice A l.length c, vs, .int .i64 (j : Int), .slice Ai idx.length ci] M (fun r M' => RSt M' r (fxB k) (withF k l s.br j idx)) := by
 have hbe := hbegin_own M _ k hB
 obtain ⟨As, cs, Ar, cr, Af, cf, Ad, cd, rfl, h1, h2, h3⟩ := hB
 obtain ⟨Bf, kf, Ba, ka, Bd, kd, Bn, kn, Bu, ku, Bb, kb, rfl, q1, q2, q3, q4, q5, q6⟩ := hS
 obtain ⟨hfb, hfit, -⟩ := run_keep hrun
 have hfb2 := begin_fit hfb
 have hs64 := hfb.1
 have hr64 := hfb.2.1
 obtain ⟨n1, n2, n3, n4⟩ := run_len hrun
 obtain ⟨m1, m2, m3, m4⟩ := begin_len k
 have hok := run_ok hrun
 have hamt := run_amt hrun
 have hcl := hl.len_le
 obtain ⟨-, -, hlc, -⟩ := SlOf.cells hl
 have hjc : j ≤ c := Nat.le_trans hj hlc
 refine Fn.intro Try.func62 rfl rfl Try.ntmps62 rfl fun E F => ?_
 (repeat (first | ((with_reducible refine Tr.step rfl ?_); (first | (refine xwQ ?_) | ((with_reducible refine Knd.box ?_); (refine Exec.box rfl rfl (fun b => ?_))) | ((with_reducible refine Knd.alloc ?_); (refine Exec.alloc (tysOk.get rfl) rfl rfl (fun b => ?_))))) | (with_reducible first | apply Tr.next | apply Tr.seq | apply Tr.region | apply Tr.nil)))
 generalize b = b10
 rename_i b5 b7
 ((refine Tr.step rfl ?_))
 refine Exec.call (A := []) rfl (hbe (by omega) (by omega)) (List.Perm.refl _) rfl ?_
 rintro _ _ _ - ⟨rfl, Af2, cf2, A1, c1, A2, c2, A3, c3, A4, c4, A5, c5, rfl, hff, ⟨hc1, hc2, hc3, hc4, hc5⟩, rfl⟩
 simp only [List.cons_append, List.nil_append]
 (repeat (first | ((with_reducible refine Tr.step rfl ?_); (first | (refine xmQ ?_) | (refine xnQ ?_) | (refine xWQ ?_) | ((with_reducible refine Knd.alloc ?_); (refine Exec.alloc (tysOk.get rfl) rfl rfl (fun b => ?_))) | ((with_reducible refine Knd.slice ?_); (refine Exec.stab rfl (Stab.slice_h rfl rfl (tysOk.get rfl) rfl (tysOk.get rfl) (by omega) (by omega)) rfl ?_)))) | (with_reducible first | apply Tr.next | apply Tr.seq | apply Tr.region | apply Tr.nil | apply Tr.block)))
 generalize b = b11
 rw [Int.toNat_natCast j]
 refine Tr.loop (α := Nat × St) (fun y => ⟨113, [(25, .int .i64 (y.1 : Int)), (24, .int .i64 (j : Int)), (23, .slice A j c), (11, .pointer (some ⟨b11, 0, none⟩)), (10, .pointer (some ⟨b10, 0, none⟩)), (7, .pointer (some ⟨b7, 0, none⟩)), (1, .slice A l.length c), (3, .int .i64 (j : Int)), (4, .slice Ai idx.length ci)], [], M,
   box b11 89 [.slice Af2 k.fits.length cf2, .slice A1 k.sups.length c1, .slice A2 k.sups.length c2, .slice A3 k.reqs.length c3, .slice A4 k.reqs.length c4, .slice A5 k.reqs.length c5] :: ownS 3 1 A3 k.reqs.length c3 (intV y.2.nd) :: ownS 3 1 A4 k.reqs.length c4 (intV (fxB k).due) :: ownS 3 1 A5 k.reqs.length c5 (intV (beginF k).br) :: ownS 3 1 A1 k.sups.length c1 (intV y.2.am) :: ownS 3 1 A2 k.sups.length c2 (intV (beginF k).dy) ::
   box b10 89 [.slice none 0 0, .slice none 0 0, .slice none 0 0, .slice none 0 0, .slice none 0 0, .slice none 0 0] :: box b7 89 [.slice Bf (fxB k).fits.length kf, .slice Ba s.am.length ka, .slice Bd s.dy.length kd, .slice Bn s.nd.length kn, .slice Bu (fxB k).due.length ku, .slice Bb s.br.length kb] :: box b5 47 [.int .i64 k.known, .slice As k.sups.length cs, .slice Ar k.reqs.length cr, .slice Af k.fits.length cf, .slice Ad k.reads cd] :: F⟩)
  (fun y => y.1 ≤ j ∧ y.2 = (l.take y.1).foldl shipF (beginF k) ∧ (y.2.am.length = k.sups.length ∧ y.2.nd.length = k.reqs.length) ∧ Rg y.1 y.2.am ∧ Rg y.1 y.2.nd) (fun y => j - y.1) (0, beginF k) ⟨Nat.zero_le _, rfl, ⟨m1, m2⟩, fun a ha => by have := hfb2.amr a ha; show -((0 : Int) * 1048576) ≤ a ∧ _; omega, fun a ha => by have := hfb2.ndr a ha; show -((0 : Int) * 1048576) ≤ a ∧ _; omega⟩ hsQ (fun y hy => ?_)
 obtain ⟨i, t⟩ := y
 obtain ⟨hi, ht, ⟨ht1, ht2⟩, ht3, ht4⟩ := hy
 dsimp only at hi ht ht1 ht2 ht3 ht4
 dsimp only
 by_cases hlt : i < j
 ·obtain ⟨h, hh⟩ := get_of_lt (xs := l) (i := i) (by omega)
  have hokh := hok h (List.mem_of_getElem? hh)
  have hamth := hamt h (List.mem_of_getElem? hh)
  have hstep := foldl_take shipF l (beginF k) hh
  rw [← ht] at hstep
  obtain ⟨hA, ch, hat, rfl⟩ := hl.elem hh
  obtain ⟨kd, sup, req, day, amt⟩ := h
  obtain ⟨⟨o1, o2⟩, o3⟩ := hokh
  simp only at o1 o2 o3 hamth hat
  by_cases hk : kd = 3
  ·subst hk
   have ho4 : 0 ≤ req ∧ req < (k.reqs.length : Int) := by rcases o3 with o | o | o <;> omega
   have hamt2 := hamth (by omega)
   obtain ⟨u, rfl⟩ : ∃ u : Nat, sup = (u : Int) := ⟨sup.toNat, by omega⟩
   obtain ⟨q, rfl⟩ : ∃ q : Nat, req = (q : Int) := ⟨req.toNat, by omega⟩
   obtain ⟨a, ha⟩ := get_of_lt (xs := t.am) (i := u) (by omega)
   obtain ⟨n, hn⟩ := get_of_lt (xs := t.nd) (i := q) (by omega)
   have hra := ht3 a (List.mem_of_getElem? ha)
   have hrn := ht4 n (List.mem_of_getElem? hn)
   have hav : (intV t.am)[(u : Int).toNat]? = some (.int .i64 a) := by rw [Int.toNat_natCast]; exact intV_get ha
   have hnv : (intV t.nd)[(q : Int).toNat]? = some (.int .i64 n) := by rw [Int.toNat_natCast]; exact intV_get hn
   rw [shipF_at ha hn] at hstep
   refine Tr.own_some A1 (e := 3) (sz := 1) (m := k.sups.length) (c := c1) (xs := intV t.am) (by repeat (first | exact Has.here | apply Has.there)) (by omega) (fun hA1 => ?_)
   refine Tr.own_some A3 (e := 3) (sz := 1) (m := k.reqs.length) (c := c3) (xs := intV t.nd) (by repeat (first | exact Has.here | apply Has.there)) (by omega) (fun hA3 => ?_)
   (repeat (first | ((with_reducible refine Tr.step rfl ?_); (first | ((with_reducible refine Knd.load ?_); (first | (refine xlQ ?_) | (refine Exec.stab rfl (Stab.loadMA rfl (tysOk.get rfl) rfl (by assumption) (by first | rfl | assumption)) rfl ?_))) | (refine xfQ ?_) | (refine xiQ ?_) | (refine xWQ ?_) | ((with_reducible refine Knd.alloc ?_); (refine Exec.alloc (tysOk.get rfl) rfl rfl (fun b => ?_))) | (refine xxQ ?_))) | (with_reducible first | apply Tr.next | apply Tr.seq | apply Tr.region | apply Tr.nil | apply Tr.skip | apply Tr.block) | (refine Tr.cond_t rfl (by first | (with_reducible assumption) | (with_reducible rfl) | omega) ?_)))
   (((apply Tr.draw); (kernel_rfl)); (refine tkQ 0 (hB := by exact fun _ h => h) (s := by exact sfQ) ?_); (refine tkQ 2 (s := by exact sfQ) ?_); (refine tkQ 6 (s := by exact sfQ) ?_); (refine tkQ 1 (s := by exact slQ) ?_); (refine tkQ 3 (s := by exact slQ) ?_); (refine tkQ 7 (s := by exact slQ) ?_); (refine tkQ 4 (s := by exact sxQ) ?_); (refine tkQ 5 (s := by exact Stab.loadO rfl (tysOk.get rfl) rfl (by repeat (first | exact Has.here | apply Has.there)) (by assumption)) ?_); (refine tkQ 8 (s := by exact Stab.subi rfl rfl (by omega)) ?_); (refine tkQ 9 (s := by exact sxQ) ?_); (refine TrA.effD 10 rfl (by kernel_rfl) (by kernel_rfl) (by exact .inl rfl) ?_); (((refine Knd.store ?_); ((refine Exec.storeO rfl rfl (tysOk.get rfl) rfl (by first | rfl | assumption) (by repeat (first | exact Upd.here | apply Upd.there)) (by omega) ?_)))); (refine ⟨_, fun _ h => h, ?_⟩); (refine TrA.done (by kernel_rfl) ?_))
   rw [Int.toNat_natCast u, intV_set]
   (repeat ((with_reducible refine Tr.next ?_)))
   (((apply Tr.draw); (kernel_rfl)); (refine tkQ 0 (hB := by exact fun _ h => h) (s := by exact sfQ) ?_); (refine tkQ 2 (s := by exact sfQ) ?_); (refine tkQ 6 (s := by exact sfQ) ?_); (refine tkQ 1 (s := by exact slQ) ?_); (refine tkQ 3 (s := by exact slQ) ?_); (refine tkQ 7 (s := by exact slQ) ?_); (refine tkQ 4 (s := by exact sxQ) ?_); (refine tkQ 5 (s := by exact Stab.loadO rfl (tysOk.get rfl) rfl (by repeat (first | exact Has.here | apply Has.there)) (by assumption)) ?_); (refine tkQ 8 (s := by exact Stab.subi rfl rfl (by omega)) ?_); (refine tkQ 9 (s := by exact sxQ) ?_); (refine TrA.effD 10 rfl (by kernel_rfl) (by kernel_rfl) (by exact .inl rfl) ?_); (((refine Knd.store ?_); ((refine Exec.storeO rfl rfl (tysOk.get rfl) rfl (by first | rfl | assumption) (by repeat (first | exact Upd.here | apply Upd.there)) (by omega) ?_)))); (refine ⟨_, fun _ h => h, ?_⟩); (refine TrA.done (by kernel_rfl) ?_))
   rw [Int.toNat_natCast q, intV_set]
   (refine rQ ?_)
   refine gvQ (r := box b _ _) ?_
   exact Tr.again (i + 1, { t with am := t.am.set u (a - amt), nd := t.nd.set q (n - amt) }) ⟨by simp only; omega, hstep.symm, ⟨by simp only [List.length_set]; omega, by simp only [List.length_set]; omega⟩, ht3.set (List.mem_of_getElem? ha) hamt2 u, ht4.set (List.mem_of_getElem? hn) hamt2 q⟩ (by simp only; omega) hsQ
  ·rw [shipF, if_neg (show ¬ kd = 3 from hk)] at hstep
   (repeat (first | ((with_reducible refine Tr.step rfl ?_); (first | (refine xmQ ?_) | ((with_reducible refine Knd.load ?_); (first | (refine xlQ ?_) | (refine Exec.stab rfl (Stab.loadMA rfl (tysOk.get rfl) rfl (by assumption) (by first | rfl | assumption)) rfl ?_))) | (refine xfQ ?_) | ((with_reducible refine Knd.binOp ?_); (first | (refine xdQ ?_) | (refine xiQ ?_))) | (refine xWQ ?_) | ((with_reducible refine Knd.alloc ?_); (refine Exec.alloc (tysOk.get rfl) rfl rfl (fun b => ?_))) | (refine xxQ ?_))) | (with_reducible first | apply Tr.next | apply Tr.seq | apply Tr.region | apply Tr.nil | apply Tr.skip | apply Tr.block | apply Tr.in_normal) | (refine Tr.cond_t rfl (by first | (with_reducible assumption) | omega) ?_) | (refine Tr.cond_f rfl (by (with_reducible assumption)) ?_)))
   refine gvQ (r := box b _ _) ?_
   exact Tr.again (i + 1, t) ⟨by simp only; omega, hstep.symm, ⟨ht1, ht2⟩, ht3.next, ht4.next⟩ (by simp only; omega) hsQ
 have ei : j = i := by omega
 subst ei
 (refine rQ ?_)
 clear hi
 have htd : t.dy = (beginF k).dy := by rw [ht]; exact (ships_eff (l.take j) (beginF k) (fun z hz => by rw [m1, m2]; exact hok z (List.mem_of_mem_take hz))).2.1
 rw [← htd]
 refine Tr.loop (α := Nat × St) (fun y => ⟨113, [(55, .int .i64 (y.1 : Int)), (54, .int .i64 (idx.length : Int)), (53, .slice Ai idx.length ci), (11, .pointer (some ⟨b11, 0, none⟩)), (10, .pointer (some ⟨b10, 0, none⟩)), (7, .pointer (some ⟨b7, 0, none⟩)), (1, .slice A l.length c), (3, .int .i64 (j : Int)), (4, .slice Ai idx.length ci)], [], M,
   box b11 89 [.slice Af2 k.fits.length cf2, .slice A1 k.sups.length c1, .slice A2 k.sups.length c2, .slice A3 k.reqs.length c3, .slice A4 k.reqs.length c4, .slice A5 k.reqs.length c5] :: ownS 3 1 A3 k.reqs.length c3 (intV t.nd) :: ownS 3 1 A4 k.reqs.length c4 (intV (fxB k).due) :: ownS 3 1 A5 k.reqs.length c5 (intV (beginF k).br) :: ownS 3 1 A1 k.sups.length c1 (intV y.2.am) :: ownS 3 1 A2 k.sups.length c2 (intV y.2.dy) ::
   box b10 89 [.slice none 0 0, .slice none 0 0, .slice none 0 0, .slice none 0 0, .slice none 0 0, .slice none 0 0] :: box b7 89 [.slice Bf (fxB k).fits.length kf, .slice Ba s.am.length ka, .slice Bd s.dy.length kd, .slice Bn s.nd.length kn, .slice Bu (fxB k).due.length ku, .slice Bb s.br.length kb] :: box b5 47 [.int .i64 k.known, .slice As k.sups.length cs, .slice Ar k.reqs.length cr, .slice Af k.fits.length cf, .slice Ad k.reads cd] :: F⟩)
  (fun y => y.1 ≤ idx.length ∧ y.2 = ((idx.map fun u => l.getD u zH).take y.1).foldl lossF t ∧ (y.2.am.length = k.sups.length ∧ y.2.dy.length = k.sups.length ∧ y.2.nd = t.nd) ∧ Rg (j + y.1) y.2.am) (fun y => idx.length - y.1) (0, t) ⟨Nat.zero_le _, rfl, ⟨ht1, by show t.dy.length = _; rw [htd]; exact m3, rfl⟩, ht3⟩ hsQ (fun y hy => ?_)
 obtain ⟨i, t2⟩ := y
 obtain ⟨hi, he, ⟨he1, he2, he4⟩, he3⟩ := hy
 dsimp only at hi he he1 he2 he3 he4
 dsimp only
 by_cases hlt2 : i < idx.length
 ·obtain ⟨w, hw⟩ := get_of_lt (xs := idx) (i := i) (by omega)
  obtain ⟨hwl, hw3⟩ := hidx w (List.mem_of_getElem? hw)
  obtain ⟨h, hh⟩ := get_of_lt (xs := l) (i := w) hwl
  rw [getD_of (d := zH) hh] at hw3
  have hokh := hok h (List.mem_of_getElem? hh)
  have hamth := hamt h (List.mem_of_getElem? hh)
  have hstep := foldl_take lossF (idx.map fun u => l.getD u zH) t (map_take1 (fun u => l.getD u zH) hw)
  rw [← he, getD_of (d := zH) hh] at hstep
  obtain ⟨hAx, hatx⟩ := Ints.at hx (nats__get hw)
  obtain ⟨hA, ch, hat, rfl⟩ := hl.elem hh
  obtain ⟨kd, sup, req, day, amt⟩ := h
  obtain ⟨⟨o1, o2⟩, o3⟩ := hokh
  simp only at o1 o2 o3 hamth hat hw3
  obtain ⟨u, rfl⟩ : ∃ u : Nat, sup = (u : Int) := ⟨sup.toNat, by omega⟩
  obtain ⟨a, ha⟩ := get_of_lt (xs := t2.am) (i := u) (by omega)
  obtain ⟨n, hn⟩ := get_of_lt (xs := t2.dy) (i := u) (by omega)
  have hra := he3 a (List.mem_of_getElem? ha)
  have hav : (intV t2.am)[(u : Int).toNat]? = some (.int .i64 a) := by rw [Int.toNat_natCast]; exact intV_get ha
  have hnv : (intV t2.dy)[(u : Int).toNat]? = some (.int .i64 n) := by rw [Int.toNat_natCast]; exact intV_get hn
  refine Tr.own_some A1 (e := 3) (sz := 1) (m := k.sups.length) (c := c1) (xs := intV t2.am) (by repeat (first | exact Has.here | apply Has.there)) (by omega) (fun hA1 => ?_)
  refine Tr.own_some A2 (e := 3) (sz := 1) (m := k.sups.length) (c := c2) (xs := intV t2.dy) (by repeat (first | exact Has.here | apply Has.there)) (by omega) (fun hA3 => ?_)
  by_cases hk : kd = 1
  ·subst hk
   have hamt2 := hamth (by omega)
   rw [lossF_lose ha] at hstep
   (repeat (first | ((with_reducible refine Tr.step rfl ?_); (first | (refine xmQ ?_) | (refine xaQ ?_) | ((with_reducible refine Knd.load ?_); (first | (refine xlQ ?_) | (refine xMQ ?_) | (refine Exec.stab rfl (Stab.loadMA rfl (tysOk.get rfl) rfl (by assumption) (by first | rfl | assumption)) rfl ?_))) | (refine xfQ ?_) | (refine xiQ ?_) | (refine xWQ ?_) | ((with_reducible refine Knd.alloc ?_); (refine Exec.alloc (tysOk.get rfl) rfl rfl (fun b => ?_))) | (refine xxQ ?_))) | (with_reducible first | apply Tr.next | apply Tr.seq | apply Tr.region | apply Tr.nil | apply Tr.skip | apply Tr.block) | (refine Tr.cond_t rfl (by first | (with_reducible assumption) | (with_reducible rfl) | omega) ?_)))
   (((apply Tr.draw); (kernel_rfl)); (refine tkQ 0 (hB := by exact fun _ h => h) (s := by exact sfQ) ?_); (refine tkQ 2 (s := by exact sfQ) ?_); (refine tkQ 6 (s := by exact sfQ) ?_); (refine tkQ 1 (s := by exact slQ) ?_); (refine tkQ 3 (s := by exact slQ) ?_); (refine tkQ 7 (s := by exact slQ) ?_); (refine tkQ 4 (s := by exact sxQ) ?_); (refine tkQ 5 (s := by exact Stab.loadO rfl (tysOk.get rfl) rfl (by repeat (first | exact Has.here | apply Has.there)) (by assumption)) ?_); (refine tkQ 8 (s := by exact Stab.subi rfl rfl (by omega)) ?_); (refine tkQ 9 (s := by exact sxQ) ?_); (refine TrA.effD 10 rfl (by kernel_rfl) (by kernel_rfl) (by exact .inl rfl) ?_); (((refine Knd.store ?_); ((refine Exec.storeO rfl rfl (tysOk.get rfl) rfl (by first | rfl | assumption) (by repeat (first | exact Upd.here | apply Upd.there)) (by omega) ?_)))); (refine ⟨_, fun _ h => h, ?_⟩); (refine TrA.done (by kernel_rfl) ?_))
   rw [Int.toNat_natCast u, intV_set]
   (refine rQ ?_)
   refine gvQ (r := box b _ _) ?_
   exact Tr.again (i + 1, { t2 with am := t2.am.set u (a - amt) }) ⟨by simp only; omega, hstep.symm, ⟨by simp only [List.length_set]; omega, he2, he4⟩, by have := he3.set (List.mem_of_getElem? ha) hamt2 u; exact this⟩ (by simp only; omega) hsQ
  ·rw [lossF_late hk hn] at hstep
   (repeat (first | ((with_reducible refine Tr.step rfl ?_); (first | (refine xmQ ?_) | (refine xaQ ?_) | ((with_reducible refine Knd.load ?_); (first | (refine xlQ ?_) | (refine xMQ ?_) | (refine Exec.stab rfl (Stab.loadMA rfl (tysOk.get rfl) rfl (by assumption) (by first | rfl | assumption)) rfl ?_))) | (refine xfQ ?_) | (refine xiQ ?_) | (refine xWQ ?_) | ((with_reducible refine Knd.alloc ?_); (refine Exec.alloc (tysOk.get rfl) rfl rfl (fun b => ?_))) | (refine xxQ ?_))) | (with_reducible first | apply Tr.next | apply Tr.seq | apply Tr.region | apply Tr.nil | apply Tr.skip | apply Tr.block) | (refine Tr.cond_t rfl (by first | (with_reducible assumption) | omega) ?_) | (refine Tr.cond_f rfl (by (with_reducible assumption)) ?_)))
   (((apply Tr.draw); (kernel_rfl)); (refine tkQ 0 (hB := by exact fun _ h => h) (s := by exact sfQ) ?_); (refine tkQ 2 (s := by exact sfQ) ?_); (refine tkQ 4 (s := by exact sfQ) ?_); (refine tkQ 6 (s := by exact sfQ) ?_); (refine tkQ 10 (s := by exact sfQ) ?_); (refine tkQ 1 (s := by exact slQ) ?_); (refine tkQ 3 (s := by exact slQ) ?_); (refine tkQ 5 (s := by exact slQ) ?_); (refine tkQ 7 (s := by exact slQ) ?_); (refine tkQ 11 (s := by exact slQ) ?_); (refine tkQ 8 (s := by exact sxQ) ?_); (refine tkQ 9 (s := by exact Stab.loadO rfl (tysOk.get rfl) rfl (by repeat (first | exact Has.here | apply Has.there)) (by assumption)) ?_); (refine tkQ 12 (s := by exact Stab.max2 rfl rfl) ?_); (refine tkQ 13 (s := by exact sxQ) ?_); (refine TrA.effD 14 rfl (by kernel_rfl) (by kernel_rfl) (by exact .inl rfl) ?_); (((refine Knd.store ?_); ((refine Exec.storeO rfl rfl (tysOk.get rfl) rfl (by first | rfl | assumption) (by repeat (first | exact Upd.here | apply Upd.there)) (by omega) ?_)))); (refine ⟨_, fun _ h => h, ?_⟩); (refine TrA.done (by kernel_rfl) ?_))
   rw [Int.toNat_natCast u, intV_set]
   (refine rQ ?_)
   refine gvQ (r := box b _ _) ?_
   exact Tr.again (i + 1, { t2 with dy := t2.dy.set u (max n day) }) ⟨by simp only; omega, hstep.symm, ⟨he1, by simp only [List.length_set]; omega, he4⟩, he3.next⟩ (by simp only; omega) hsQ
 have ei : idx.length = i := by omega
 subst ei
 rw [List.take_of_length_le (by simp)] at he
 have hbr0 : (beginF k).br = (brB s.br j).take 0 ++ List.replicate (k.reqs.length - 0) (-1) := by
  rw [List.take_zero, List.nil_append, Nat.sub_zero]
  exact List.map_const' ..
 rw [hbr0]
 clear hx hl
 (refine rQ ?_)
 refine Tr.loop (α := Nat) (fun y => ⟨113, [(94, .int .i64 (y : Int)), (93, .int .i64 (s.br.length : Int)), (92, .slice Bb s.br.length kb), (11, .pointer (some ⟨b11, 0, none⟩)), (10, .pointer (some ⟨b10, 0, none⟩)), (3, .int .i64 (j : Int))], [], M,
   box b11 89 [.slice Af2 k.fits.length cf2, .slice A1 k.sups.length c1, .slice A2 k.sups.length c2, .slice A3 k.reqs.length c3, .slice A4 k.reqs.length c4, .slice A5 k.reqs.length c5] :: ownS 3 1 A3 k.reqs.length c3 (intV t.nd) :: ownS 3 1 A4 k.reqs.length c4 (intV (fxB k).due) :: ownS 3 1 A5 k.reqs.length c5 (intV ((brB s.br j).take y ++ List.replicate (k.reqs.length - y) (-1))) :: ownS 3 1 A1 k.sups.length c1 (intV t2.am) :: ownS 3 1 A2 k.sups.length c2 (intV t2.dy) ::
   box b10 89 [.slice none 0 0, .slice none 0 0, .slice none 0 0, .slice none 0 0, .slice none 0 0, .slice none 0 0] :: box b7 89 [.slice Bf (fxB k).fits.length kf, .slice Ba s.am.length ka, .slice Bd s.dy.length kd, .slice Bn s.nd.length kn, .slice Bu (fxB k).due.length ku, .slice Bb s.br.length kb] :: box b5 47 [.int .i64 k.known, .slice As k.sups.length cs, .slice Ar k.reqs.length cr, .slice Af k.fits.length cf, .slice Ad k.reads cd] :: F⟩)
  (fun y => y ≤ k.reqs.length) (fun y => k.reqs.length - y) 0 (Nat.zero_le _) hsQ (fun i hi => ?_)
 by_cases hlt3 : i < k.reqs.length
 ·obtain ⟨a, ha⟩ := get_of_lt (xs := s.br) (i := i) (by omega)
  obtain ⟨hAb, hatb⟩ := Ints.at q6 ha
  have hnx := brI_next (j := j) n4 ha
  by_cases h0 : 0 ≤ a
  ·by_cases hj2 : a < (j : Int)
   ·rw [if_pos ⟨h0, hj2⟩] at hnx
    refine Tr.own_some A5 (e := 3) (sz := 1) (m := k.reqs.length) (c := c5) (by repeat (first | exact Has.here | apply Has.there)) (by omega) (fun hA5 => ?_)
    (repeat (first | ((with_reducible refine Tr.step rfl ?_); (first | (refine xmQ ?_) | (refine xaQ ?_) | ((with_reducible refine Knd.load ?_); (first | (refine xlQ ?_) | (refine xMQ ?_))) | (refine xfQ ?_) | ((with_reducible refine Knd.binOp ?_); (first | (refine xdQ ?_) | (refine xiQ ?_))) | ((with_reducible refine Knd.pick ?_); (refine Exec.stab rfl (Stab.pick_td rfl (by (with_reducible assumption)) rfl) rfl ?_)) | ((with_reducible refine Knd.store ?_); (refine Exec.storeO rfl rfl (tysOk.get rfl) rfl (by first | rfl | assumption) (by repeat (first | exact Upd.here | apply Upd.there)) (by omega) ?_)) | (refine xxQ ?_))) | (with_reducible first | apply Tr.next | apply Tr.seq | apply Tr.region | apply Tr.nil) | ((refine Tr.guard_y rfl rfl rfl (by (with_reducible assumption)) ?_); (first | (refine xmQ ?_) | (refine xiQ ?_))) | (with_reducible first | apply Tr.skip | apply Tr.block | apply Tr.in_normal) | (refine Tr.cond_t rfl (by first | (with_reducible assumption) | omega) ?_)))
    rw [Int.toNat_natCast i, intV_set, hnx]
    exact Tr.again (i + 1) (by omega) (by omega) hsQ
   ·rw [if_neg (fun h => hj2 h.2)] at hnx
    have hsame : ((brB s.br j).take i ++ List.replicate (k.reqs.length - i) (-1 : Int)) = (brB s.br j).take (i + 1) ++ List.replicate (k.reqs.length - (i + 1)) (-1) := by
     rw [← hnx, set_same (by rw [List.getElem?_append_right (by rw [List.length_take, brB_length]; omega), List.length_take, brB_length, Nat.min_eq_left (by omega), Nat.sub_self, List.getElem?_replicate, if_pos (by omega)])]
    rw [hsame]
    (refine rQ ?_)
    exact Tr.again (i + 1) (by omega) (by omega) hsQ
  ·rw [if_neg (fun h => h0 h.1)] at hnx
   have hsame : ((brB s.br j).take i ++ List.replicate (k.reqs.length - i) (-1 : Int)) = (brB s.br j).take (i + 1) ++ List.replicate (k.reqs.length - (i + 1)) (-1) := by
    rw [← hnx, set_same (by rw [List.getElem?_append_right (by rw [List.length_take, brB_length]; omega), List.length_take, brB_length, Nat.min_eq_left (by omega), Nat.sub_self, List.getElem?_replicate, if_pos (by omega)])]
   rw [hsame]
   (refine rQ ?_)
   exact Tr.again (i + 1) (by omega) (by omega) hsQ
 have ei : k.reqs.length = i := by omega
 subst ei
 rw [Nat.sub_self, List.replicate_zero, List.append_nil, List.take_of_length_le (by rw [brB_length]; omega)]
 refine pbQ (r := ownS 3 1 A3 _ _ _) (fun M1 hm1 ok1 => ?_)
 have i1 := Ints.ofOwn ok1 ht2.symm hc3
 refine pbQ (r := ownS 3 1 A4 _ _ _) (fun M2 hm2 ok2 => ?_)
 have i2 := Ints.ofOwn ok2 (by simp [fxB]) hc4
 refine pbQ (r := ownS 3 1 A5 _ _ _) (fun M3 hm3 ok3 => ?_)
 have i3 := Ints.ofOwn ok3 (by rw [brB_length]; omega) hc5
 refine pbQ (r := ownS 3 1 A1 _ _ _) (fun M4 hm4 ok4 => ?_)
 have i4 := Ints.ofOwn ok4 he1.symm hc1
 refine pbQ (r := ownS 3 1 A2 _ _ _) (fun M5 hm5 ok5 => ?_)
 have i5 := Ints.ofOwn ok5 he2.symm hc2
 have m45 := hm4.trans hm5
 have m35 := hm3.trans m45
 have m25 := hm2.trans m35
 have hlast := hm1.trans m25
 (refine rQ ?_)
 (refine Tr.done (by first | exact .inl rfl | exact .inr rfl) rfl (by repeat (first | exact RVs.nil | (apply RVs.cons; (exact RV.cellW (by rfl) (tysOk.get (by rfl)) (by rfl) (by repeat (first | exact Has.here | apply Has.there)) (by first | rfl | assumption))))) (by first | exact Mem.le.refl _ | assumption) (by exact ⟨[_, _, _, _], rfl⟩) ⟨rfl, ?_⟩)
 have hw : withF k l s.br j idx = { t2 with br := brB s.br j } := by rw [withF, he, ht]
 rw [hw]
 refine ⟨Af2, cf2, A1, c1, A2, c2, A3, c3, A4, c4, A5, c5, ?_, hff.mono RRowB.mono hlast, i4.mono RI.mono hm5, i5, ?_, i2.mono RI.mono m35, i3.mono RI.mono m45⟩
 ·show _ = Value.agg #[_, .slice _ t2.am.length _, .slice _ t2.dy.length _, .slice _ t2.nd.length _, .slice _ ((fxB k).due.length) _, .slice _ (brB s.br j).length _]
  rw [he1, he2, he4, ht2, brB_length, n4, show (fxB k).due.length = k.reqs.length by simp [fxB]]
  rfl
 ·show Ints M5 (.slice A3 t2.nd.length c3) t2.nd
  rw [he4]
  exact i1.mono RI.mono m25
end Go.Proofs.Ytcadnjmcmegpjaa

/-
 Honour: because.
 Conditions: none.
-/
namespace Go.Proofs.Ytcadnjmcmegpjaa
open Go Bf
attribute [local irreducible] Tr Exec Stab HasTy Go.Addr.add IntKind.wrap
theorem notShip_next {l : List Hp} {i : Nat} : notShip l (i + 1) = notShip l i ++ (if (l.getD i zH).kind ≠ 3 then [i] else []) := by
 rw [notShip, List.range_succ, List.filter_append, notShip]
 congr 1
 by_cases h : (l.getD i zH).kind ≠ 3
 ·rw [if_pos h, List.filter_cons_of_pos (by exact decide_eq_true h)]; rfl
 ·rw [if_neg h, List.filter_cons_of_neg (by rw [decide_eq_true_iff]; exact h)]; rfl
theorem notShip_len (l : List Hp) (n : Nat) : (notShip l n).length ≤ n := by
 have := (notShip_sub l n).length_le
 rwa [List.length_range] at this
theorem nats__erase (l : List Nat) (i : Nat) : (nats_ l).eraseIdx i = nats_ (l.eraseIdx i) := by
 rw [nats_, nats_, List.eraseIdx_eq_take_drop_succ, List.eraseIdx_eq_take_drop_succ, List.map_append, List.map_take, List.map_drop]
theorem nats__mem {l : List Nat} {q : Nat} : (q : Int) ∈ nats_ l ↔ q ∈ l := by
 simp only [nats_, List.mem_map]
 constructor
 ·rintro ⟨a, ha, e⟩
  have : a = q := by omega
  rwa [← this]
 ·exact fun h => ⟨q, h, rfl⟩
set_option maxHeartbeats 16000000 in
theorem because_fn (M : Mem) (vb vs : Value) (k : Bk) (hB : RBk M vb k) (A : Option Addr) (c : Nat) (l : List Hp) (hl : SlOf 5 RHp M (.slice A l.length c) l) (s : St) (hS : RSt M vs (fxB k) s) (hrun : runF k l = some s) (q : Nat) (hq : q < k.reqs.length) (hbq : 0 ≤ s.br.getD q 0) (hll : l.length ≤ 1000) :
  Fn0 Try.prog 29 [vb, .slice A l.length c, vs, .int .i64 (q : Int)] M (fun r M' => ∃ A' c', r = .slice A' (becF k l s.br q).length c' ∧ Ints M' (.slice A' (becF k l s.br q).length c') (nats_ (becF k l s.br q))) := by
 have hB0 := hB
 have hS0 := hS
 obtain ⟨As, cs, Ar, cr, Af, cf, Ad, cd, rfl, h1, h2, h3⟩ := hB
 obtain ⟨Bf, kf, Ba, ka, Bd, kd, Bn, kn, Bu, ku, Bb, kb, rfl, q1, q2, q3, q4, q5, q6⟩ := hS
 obtain ⟨n1, n2, n3, n4⟩ := run_len hrun
 obtain ⟨hfb, -, -⟩ := run_keep hrun
 have hr64 := hfb.2.1
 obtain ⟨j, hjl, hj, hj3⟩ : ∃ j, j < l.length ∧ s.br.getD q 0 = (j : Int) ∧ (l.getD j zH).kind ≠ 3 := by
  rcases run_brk hrun hq with e | e
  ·omega
  ·exact e
 have hbec : becF k l s.br q = becL k l s.br j q (notShip l (j + 1)).length (notShip l (j + 1)) := by rw [becF, hj]; rfl
 obtain ⟨z, hz⟩ := get_of_lt (xs := s.br) (i := q) (by omega)
 obtain rfl : z = (j : Int) := by rw [getD_of (d := (0 : Int)) hz] at hj; exact hj
 obtain ⟨hAb, hatb⟩ := Ints.at q6 hz
 have hcl := hl.len_le
 obtain ⟨-, -, hlc, hc63, -⟩ := SlOf.cells hl
 refine Fn.intro Try.func29 rfl rfl Try.ntmps29 rfl fun E F => ?_
 (repeat (first | ((with_reducible refine Tr.step rfl ?_); (first | (refine xmQ ?_) | (refine xaQ ?_) | ((with_reducible refine Knd.load ?_); (first | (refine xlQ ?_) | (refine xMQ ?_))) | (refine xfQ ?_) | (refine xnQ ?_) | (refine xdQ ?_) | ((with_reducible refine Knd.box ?_); (refine Exec.box rfl rfl (fun b => ?_))) | (refine xxQ ?_) | ((with_reducible refine Knd.slice ?_); (refine Exec.stab rfl (Stab.slice_h rfl rfl (tysOk.get rfl) rfl (tysOk.get rfl) (by omega) (by omega)) rfl ?_)))) | (with_reducible first | apply Tr.next | apply Tr.seq | apply Tr.region | apply Tr.nil | apply Tr.block)))
 generalize b = b6
 rename_i b4
 refine Tr.own_nil 3 1 ?_
 have ej : ((j : Int) + 1).toNat = j + 1 := by omega
 rw [ej]
 refine Tr.loop (α := Nat × Option Addr × Nat) (fun y => ⟨65, [(25, .int .i64 (y.1 : Int)), (24, .int .i64 ((j + 1 : Nat) : Int)), (23, .slice A (j + 1) c), (9, .int .i64 (j : Int)), (8, .slice y.2.1 (notShip l y.1).length y.2.2), (6, .pointer (some ⟨b6, 0, none⟩)), (4, .pointer (some ⟨b4, 0, none⟩)), (1, .slice A l.length c), (3, .int .i64 (q : Int))], [], M,
   ownS 3 1 y.2.1 (notShip l y.1).length y.2.2 (intV (nats_ (notShip l y.1))) :: box b6 89 [.slice Bf (fxB k).fits.length kf, .slice Ba s.am.length ka, .slice Bd s.dy.length kd, .slice Bn s.nd.length kn, .slice Bu (fxB k).due.length ku, .slice Bb s.br.length kb] :: box b4 47 [.int .i64 k.known, .slice As k.sups.length cs, .slice Ar k.reqs.length cr, .slice Af k.fits.length cf, .slice Ad k.reads cd] :: ([] ++ F)⟩)
  (fun y => y.1 ≤ j + 1 ∧ y.2.2 ≤ 9223372036854775807) (fun y => j + 1 - y.1) (0, none, 0) ⟨Nat.zero_le _, by show (0 : Nat) ≤ _; omega⟩ hsQ (fun y hy => ?_)
 obtain ⟨i, A1, c1⟩ := y
 obtain ⟨hi, hc1⟩ := hy
 dsimp only at hi hc1
 dsimp only
 by_cases hlt : i < j + 1
 ·obtain ⟨h, hh⟩ := get_of_lt (xs := l) (i := i) (by omega)
  obtain ⟨hA, ch, hat, rfl⟩ := hl.elem hh
  have hnx := notShip_next (l := l) (i := i)
  rw [getD_of (d := zH) hh] at hnx
  have hnl := notShip_len l i
  by_cases hk : h.kind ≠ 3
  ·rw [if_pos hk] at hnx
   (repeat (first | ((with_reducible refine Tr.step rfl ?_); (first | (refine xmQ ?_) | (refine xaQ ?_) | ((with_reducible refine Knd.load ?_); (first | (refine xlQ ?_) | (refine Exec.stab rfl (Stab.loadMA rfl (tysOk.get rfl) rfl (by assumption) (by first | rfl | assumption)) rfl ?_))) | (refine xfQ ?_) | (refine xiQ ?_) | (refine xWQ ?_) | ((with_reducible refine Knd.alloc ?_); (refine Exec.alloc (tysOk.get rfl) rfl rfl (fun b => ?_))) | (refine xxQ ?_) | ((with_reducible refine Knd.buildSlice ?_); (refine Exec.buildSlice (tysOk.get rfl) rfl (tysOk.get rfl) rfl rfl rfl rfl rfl (by repeat (first | exact BuildP.nil | ((apply BuildP.one); (rfl); (rfl); (first | rfl | assumption); (repeat (first | exact SetL.z | apply SetL.s))))) rfl (fun b => ?_))))) | (with_reducible first | apply Tr.next | apply Tr.seq | apply Tr.region | apply Tr.nil | apply Tr.skip | apply Tr.block) | (refine Tr.cond_t rfl (by first | (with_reducible assumption) | omega) ?_)))
   rename_i b11
   ((refine Tr.step rfl ?_))
   refine Exec.append (news := [.int .i64 (i : Int)]) rfl rfl (tysOk.get rfl) rfl (tysOk.get rfl) rfl rfl rfl rfl (by repeat (first | exact Del.here | apply Del.there)) (Src.box (by repeat (first | exact Has.here | apply Has.there))) rfl (by intro u hu; simp at hu; subst hu; rfl) (by omega) (by omega) rfl (fun A2 c2 hc2 => ?_)
   refine gvQ (r := box b 3 _) ?_
   rw [show intV (nats_ (notShip l i)) ++ [Value.int .i64 (i : Int)] = intV (nats_ (notShip l (i + 1))) by rw [hnx, nats__snoc, intV_append]; rfl, show (notShip l i).length + 1 = (notShip l (i + 1)).length by rw [hnx, List.length_append]; rfl]
   (refine rQ ?_)
   refine gvQ (r := box b11 _ _) ?_
   exact Tr.again (i + 1, A2, c2) ⟨by simp only; omega, hc2⟩ (by simp only; omega) hsQ
  ·rw [if_neg hk, List.append_nil] at hnx
   rw [← hnx]
   have hk3 : h.kind = 3 := Classical.not_not.1 hk
   (repeat (first | ((with_reducible refine Tr.step rfl ?_); (first | (refine xmQ ?_) | (refine xaQ ?_) | ((with_reducible refine Knd.load ?_); (first | (refine xlQ ?_) | (refine Exec.stab rfl (Stab.loadMA rfl (tysOk.get rfl) rfl (by assumption) (by first | rfl | assumption)) rfl ?_))) | (refine xfQ ?_) | ((with_reducible refine Knd.binOp ?_); (first | (refine xdQ ?_) | (refine xiQ ?_))) | (refine xWQ ?_) | ((with_reducible refine Knd.alloc ?_); (refine Exec.alloc (tysOk.get rfl) rfl rfl (fun b => ?_))) | (refine xxQ ?_))) | (with_reducible first | apply Tr.next | apply Tr.seq | apply Tr.region | apply Tr.nil | apply Tr.skip | apply Tr.block | apply Tr.in_normal) | (refine Tr.cond_t rfl (by first | (with_reducible assumption) | omega) ?_) | (refine Tr.cond_f rfl (by (with_reducible assumption)) ?_)))
   refine gvQ (r := box b _ _) ?_
   exact Tr.again (i + 1, A1, c1) ⟨by simp only; omega, hc1⟩ (by simp only; omega) hsQ
 have ei : j + 1 = i := by omega
 subst ei
 refine pbQ (r := ownS 3 1 A1 _ _ _) (fun M1 hm1 ok1 => ?_)
 have i1 := Ints.ofOwn ok1 (by rw [nats__length]) hc1
 rw [nats__length] at i1
 have hnl := notShip_len l (j + 1)
 rw [hbec]
 clear ok1 hbec
 have hsub0 := notShip_sub l (j + 1)
 have hns0 : ∀ t ∈ notShip l (j + 1), (l.getD t zH).kind ≠ 3 := fun t ht => (notShip_mem.1 ht).2
 generalize notShip l (j + 1) = l0 at i1 hnl hsub0 hns0
 (refine rQ ?_)
 refine Tr.loop (α := Nat × Mem × Option Addr × Nat × List Nat) (fun y => ⟨65, [(12, .int .i64 ((y.1 : Int) - 1)), (9, .int .i64 (j : Int)), (8, .slice y.2.2.1 y.2.2.2.2.length y.2.2.2.1), (6, .pointer (some ⟨b6, 0, none⟩)), (4, .pointer (some ⟨b4, 0, none⟩)), (1, .slice A l.length c), (3, .int .i64 (q : Int))], [], y.2.1,
   box b6 89 [.slice Bf (fxB k).fits.length kf, .slice Ba s.am.length ka, .slice Bd s.dy.length kd, .slice Bn s.nd.length kn, .slice Bu (fxB k).due.length ku, .slice Bb s.br.length kb] :: box b4 47 [.int .i64 k.known, .slice As k.sups.length cs, .slice Ar k.reqs.length cr, .slice Af k.fits.length cf, .slice Ad k.reads cd] :: ([] ++ F)⟩)
  (fun y => y.1 ≤ y.2.2.2.2.length ∧ Mem.le M y.2.1 ∧ Ints y.2.1 (.slice y.2.2.1 y.2.2.2.2.length y.2.2.2.1) (nats_ y.2.2.2.2) ∧ (y.2.2.2.2.Sublist (List.range (j + 1)) ∧ (∀ t ∈ y.2.2.2.2, (l.getD t zH).kind ≠ 3)) ∧ becL k l s.br j q y.1 y.2.2.2.2 = becL k l s.br j q l0.length l0) (fun y => y.1)
  (l0.length, M1, A1, c1, l0) ⟨Nat.le_refl _, hm1, i1, ⟨hsub0, hns0⟩, rfl⟩ hsQ (fun y hy => ?_)
 clear hm1 i1
 obtain ⟨i, M2, A2, c2, left⟩ := y
 obtain ⟨hi, hm2, hx, ⟨hsub, hns⟩, hbl⟩ := hy
 dsimp only at hi hm2 hx hsub hns hbl
 dsimp only
 have hlen : left.length ≤ j + 1 := by have := hsub.length_le; rwa [List.length_range] at this
 cases i with
 | zero =>
  rw [show (((0 : Nat) : Int) - 1) = -1 by omega]
  (refine rQ ?_)
  (refine dnQ (hL := by exact ⟨[_, _], rfl⟩) ⟨rfl, ?_⟩)
  rw [← hbl]
  exact ⟨A2, c2, rfl, hx⟩
 | succ i =>
 rw [show (((i + 1 : Nat) : Int) - 1) = (i : Int) by omega]
 have hxl : (nats_ left).length = left.length := nats__length left
 have hcl2 := clone_fn M2 A2 c2 (nats_ left) (by rw [hxl]; exact hx) (by omega)
 rw [hxl] at hcl2
 (refine rQ ?_)
 ((refine Tr.step rfl ?_))
 refine Exec.call (A := []) rfl hcl2 (List.Perm.refl _) rfl ?_
 rintro _ _ _ - ⟨⟨A3, c3, rfl, hc3, rfl⟩, rfl⟩
 simp only [List.cons_append, List.nil_append]
 have hdel := delete_own M2 A3 c3 (nats_ left) i (by omega) (by omega) hc3
 rw [hxl, nats__erase] at hdel
 (repeat (((with_reducible refine Tr.step rfl ?_); (first | (refine xmQ ?_) | (refine xdQ ?_)))))
 ((refine Tr.step rfl ?_))
 refine Exec.call (A := [ownS 3 1 A3 left.length c3 (intV (nats_ left))]) rfl hdel (List.Perm.refl _) rfl ?_
 rintro _ _ _ - ⟨rfl, rfl, rfl⟩
 simp only [List.cons_append, List.nil_append]
 rw [becL] at hbl
 have hel : (left.eraseIdx i).length = left.length - 1 := List.length_eraseIdx_of_lt (by omega)
 have hsub2 := (List.eraseIdx_sublist left i).trans hsub
 have hns2 : ∀ t ∈ left.eraseIdx i, (l.getD t zH).kind ≠ 3 := fun t ht => hns t ((List.eraseIdx_sublist left i).subset ht)
 rw [← hel]
 generalize left.eraseIdx i = others at hbl hel hsub2 hns2
 refine pbQ (r := ownS 3 1 A3 _ _ _) (fun M3 hm3 ok3 => ?_)
 have i3 := Ints.ofOwn ok3 (by rw [nats__length]) hc3
 rw [nats__length] at i3
 have hm13 := hm2.trans hm3
 have hwo := without_fn M3 _ _ k (hB0.mono hm13) A c l (hl.mono RHp.mono hm13) s (hS0.mono hm13) hrun j (by omega) A3 c3 others i3 (fun t ht => ⟨by have := List.mem_range.1 (hsub2.subset ht); omega, hns2 t ht⟩) hll (by omega)
 have hwf := with_fit hrun hjl hsub2 hns2
 generalize withF k l s.br j others = wst at hwo hwf hbl
 (refine rQ ?_)
 ((refine Tr.step rfl ?_))
 refine Exec.call0 rfl hwo rfl ?_
 rintro r4 M4 hm4 hS4
 have hS4' := hS4
 obtain ⟨Cf, gf, Ca, ga, Cd, gd, Cn, gn, Cu, gu, Cb, gb, rfl, w1, w2, w3, w4, w5, w6⟩ := hS4
 have hq1 : (q : Int) + 1 = ((q + 1 : Nat) : Int) := by omega
 have hnd : wst.nd.length = k.reqs.length := by rw [← hwf.dul]; simp [fxB]
 have hfl := failing_own M4 _ (fxB k) wst (q + 1) hS4' hwf (by omega)
 (repeat (first | ((with_reducible refine Tr.step rfl ?_); (first | (refine xmQ ?_) | (refine xwQ ?_) | (refine xdQ ?_) | (refine xWQ ?_) | ((with_reducible refine Knd.alloc ?_); (refine Exec.alloc (tysOk.get rfl) rfl rfl (fun b => ?_))))) | (with_reducible first | apply Tr.next | apply Tr.seq | apply Tr.region | apply Tr.nil)))
 generalize b = b14
 rw [hq1]
 ((refine Tr.step rfl ?_))
 refine Exec.call (A := []) rfl hfl (List.Perm.refl _) rfl ?_
 rintro _ M5 _ hm5 ⟨A9, c9, hc9, rfl, rfl⟩
 simp only [List.cons_append, List.nil_append]
 generalize failF (fxB k) wst (q + 1) = fl at hbl
 refine pbQ (r := ownS 3 1 A9 _ _ _) (fun M6 hm6 ok6 => ?_)
 have i6 := Ints.ofOwn ok6 (by rw [nats__length]) hc9
 have hm36 := hm4.trans (hm5.trans hm6)
 have hm26 := hm3.trans hm36
 have hfln : (nats_ fl).length = fl.length := nats__length fl
 have hco := contains_fn M6 A9 c9 (nats_ fl) (q : Int) i6
 rw [hfln] at hco
 (repeat (((with_reducible refine Tr.step rfl ?_); (with_reducible refine Knd.move ?_); (refine xmQ ?_))))
 ((refine Tr.step rfl ?_))
 refine Exec.call0 rfl hco rfl ?_
 rintro _ _ _ ⟨⟨bb, rfl, hbb⟩, rfl⟩
 rw [nats__mem] at hbb
 cases bb with
 | true =>
  rw [if_pos (hbb.1 rfl)] at hbl
  (refine rQ ?_)
  refine gvQ (r := box b14 _ _) ?_
  exact Tr.again (i, M6, A3, c3, others) ⟨by simp only; omega, hm2.trans hm26, i3.mono RI.mono hm36, ⟨hsub2, hns2⟩, hbl⟩ (by simp only; omega) hsQ
 | false =>
  rw [if_neg (fun h => by have := hbb.2 h; cases this)] at hbl
  (refine rQ ?_)
  refine gvQ (r := box b14 _ _) ?_
  exact Tr.again (i, M6, A2, c2, left) ⟨by simp only; omega, hm2.trans hm26, hx.mono RI.mono hm26, ⟨hsub, hns⟩, hbl⟩ (by simp only; omega) hsQ
end Go.Proofs.Ytcadnjmcmegpjaa

/-
 Honour: Broken.
 Conditions: none.
-/
namespace Go.Proofs.Ytcadnjmcmegpjaa
open Go Bf
attribute [local irreducible] Tr Exec Stab HasTy Go.Addr.add IntKind.wrap
noncomputable def brkN (k : Bk) (l : List Hp) (s : St) (n : Nat) : List (Nat × List Nat) := ((List.range n).filter fun q => decide (0 ≤ s.br.getD q 0)).map fun q => (q, becF k l s.br q)
noncomputable def brkF (k : Bk) (l : List Hp) (s : St) : List (Nat × List Nat) := brkN k l s s.br.length
def RBr (M : Mem) (c : List Value) (y : Nat × List Nat) : Prop := ∃ A n, c = [.int .i64 (y.1 : Int), .slice A y.2.length n] ∧ Ints M (.slice A y.2.length n) (nats_ y.2)
theorem RBr.mono (M M' : Mem) (c : List Value) (y : Nat × List Nat) (hm : Mem.le M M') (h : RBr M c y) : RBr M' c y := by
 obtain ⟨A, n, h1, h2⟩ := h
 exact ⟨A, n, h1, h2.mono RI.mono hm⟩
theorem brkN_succ (k : Bk) (l : List Hp) (s : St) (n : Nat) : brkN k l s (n + 1) = brkN k l s n ++ (if 0 ≤ s.br.getD n 0 then [(n, becF k l s.br n)] else []) := by
 rw [brkN, List.range_succ, List.filter_append, List.map_append, brkN]
 congr 1
 by_cases h : 0 ≤ s.br.getD n 0
 ·rw [if_pos h, List.filter_cons_of_pos (by exact decide_eq_true h)]; rfl
 ·rw [if_neg h, List.filter_cons_of_neg (by rw [decide_eq_true_iff]; exact h)]; rfl
theorem brkN_len (k : Bk) (l : List Hp) (s : St) (n : Nat) : (brkN k l s n).length ≤ n := by
 rw [brkN, List.length_map]
 have := List.length_filter_le (fun q => decide (0 ≤ s.br.getD q 0)) (List.range n)
 rwa [List.length_range] at this
set_option maxHeartbeats 16000000 in
theorem broken1_fn (M : Mem) (k : Bk) (v1 v2 v3 v4 v5 : Value) (h : RBk M (.agg #[v1, v2, v3, v4, v5]) k) (A : Option Addr) (c : Nat) (l : List Hp) (hl : SlOf 5 RHp M (.slice A l.length c) l) (hll : l.length ≤ 1000) (b2 b3 b4 : Nat) :
  FnP Try.prog 28 [.pointer (some ⟨b2, 0, none⟩), .pointer (some ⟨b3, 0, none⟩), .pointer (some ⟨b4, 0, none⟩)] M [box b2 47 [v1, v2, v3, v4, v5], box b3 41 [.slice A l.length c], box b4 63 [.slice none 0 0]]
   (fun _ M' A' => ∃ s A9 c9, runF k l = some s ∧ SlOf 2 RBr M' (.slice A9 (brkF k l s).length c9) (brkF k l s) ∧ A' = [box b4 63 [.slice A9 (brkF k l s).length c9]])
   (fun ch _ A' => ch = refCh ∧ runF k l = none ∧ A' = [box b4 63 [.slice none 0 0]]) := by
 refine FnP.intro Try.func28 rfl rfl Try.ntmps28 rfl fun E F => ?_
 (refine rQ ?_)
 ((refine Tr.step rfl ?_))
 refine Exec.callP rfl (run_fn M _ k h A c l hl) (List.Perm.refl _) rfl (fun v M1 A' hm hR => ?_) (fun ch M' A' hm hR => ?_)
 rotate_left
 ·obtain ⟨rfl, rfl, hn⟩ := hR
  (repeat ((with_reducible refine Tr.then_panic ?_)))
  exact Tr.doneP (A' := [box b4 63 [.slice none 0 0]]) hm (DropL.skip (DropL.skip DropL.refl)) ⟨rfl, hn, rfl⟩
 obtain ⟨rfl, s, hrun, hS⟩ := hR
 obtain ⟨n1, n2, n3, n4⟩ := run_len hrun
 obtain ⟨hfb, -, -⟩ := run_keep hrun
 have hr64 := hfb.2.1
 have hS0 := hS
 obtain ⟨Bf, kf, Ba, ka, Bd, kd, Bn, kn, Bu, ku, Bb, kb, rfl, q1, q2, q3, q4, q5, q6⟩ := hS
 (repeat (first | ((with_reducible refine Tr.step rfl ?_); (first | (refine xmQ ?_) | (refine xlQ ?_) | (refine xfQ ?_) | (refine xnQ ?_) | (refine xWQ ?_) | ((with_reducible refine Knd.alloc ?_); (refine Exec.alloc (tysOk.get rfl) rfl rfl (fun b => ?_))))) | (with_reducible first | apply Tr.next | apply Tr.seq | apply Tr.region | apply Tr.nil | apply Tr.block)))
 generalize b = b5
 simp only [List.cons_append, List.nil_append, List.append_eq]
 refine Tr.own_nil 70 2 ?_
 refine Tr.loop (α := Nat × Mem × Option Addr × Nat × List Value) (fun y => ⟨30, [(12, .int .i64 (y.1 : Int)), (11, .int .i64 (s.br.length : Int)), (10, .slice Bb s.br.length kb), (3, .pointer (some ⟨b5, 0, none⟩)), (0, .pointer (some ⟨b2, 0, none⟩)), (1, .pointer (some ⟨b3, 0, none⟩)), (2, .pointer (some ⟨b4, 0, none⟩))], [], y.2.1,
   ownS 70 2 y.2.2.1 (brkN k l s y.1).length y.2.2.2.1 y.2.2.2.2 :: box b5 89 [.slice Bf (fxB k).fits.length kf, .slice Ba s.am.length ka, .slice Bd s.dy.length kd, .slice Bn s.nd.length kn, .slice Bu (fxB k).due.length ku, .slice Bb s.br.length kb] :: box b2 47 [v1, v2, v3, v4, v5] :: box b3 41 [.slice A l.length c] :: box b4 63 [.slice y.2.2.1 (brkN k l s y.1).length y.2.2.2.1] :: F⟩)
  (fun y => y.1 ≤ s.br.length ∧ Mem.le M1 y.2.1 ∧ y.2.2.2.1 ≤ 9223372036854775807 ∧ Elems 2 RBr y.2.1 y.2.2.2.2 (brkN k l s y.1)) (fun y => s.br.length - y.1) (0, M1, none, 0, []) ⟨Nat.zero_le _, Mem.le.refl _, by show (0 : Nat) ≤ _; omega, Elems.nil⟩ hsQ (fun y hy => ?_)
 obtain ⟨i, M2, A1, c1, cells⟩ := y
 obtain ⟨hi, hm2, hc1, hel⟩ := hy
 dsimp only at hi hm2 hc1 hel
 dsimp only
 have hbl := brkN_len k l s i
 by_cases hlt : i < s.br.length
 ·obtain ⟨z, hz⟩ := get_of_lt (xs := s.br) (i := i) hlt
  have hnx := brkN_succ k l s i
  have hzd := getD_of (d := (0 : Int)) hz
  obtain ⟨hAb, hatb⟩ := Ints.at (q6.mono RI.mono hm2) hz
  rw [hzd] at hnx
  by_cases h0 : 0 ≤ z
  ·rw [if_pos h0] at hnx
   have hM2 := hm.trans hm2
   have hbe := because_fn M2 _ _ k (h.mono hM2) A c l (hl.mono RHp.mono hM2) s (hS0.mono hm2) hrun i (by omega) (by rw [hzd]; exact h0) hll
   (refine rQ ?_)
   (((apply Tr.draw); (kernel_rfl)); (refine tkQ 0 (hB := by exact fun _ h => h) (s := by exact slQ) ?_); (refine tkQ 1 (s := by exact Stab.move rfl) ?_); (refine tkQ 2 (s := by exact swQ) ?_); (refine tkQ 3 (s := by exact slQ) ?_); (refine tkQ 4 (s := by exact swQ) ?_); (refine tkQ 5 (s := by exact Stab.move rfl) ?_); (refine TrA.eff 6 rfl (by kernel_rfl) (by exact .inl rfl) ?_))
   refine Exec.call0 rfl hbe rfl ?_
   rintro _ M3 hm3 ⟨A5, c5, rfl, hI⟩
   refine ⟨hm3, (by exact fun _ h => h), ?_⟩
   ((refine tkQ 7 (s := by exact Stab.build tysOk rfl rfl rfl rfl (by repeat (first | exact BuildP.nil | ((apply BuildP.one); (rfl); (rfl); (first | rfl | assumption); (repeat (first | exact SetL.z | apply SetL.s)))))) ?_); (refine TrA.eff 8 rfl (by kernel_rfl) (by exact .inl rfl) ?_); (((refine Knd.buildSlice ?_); ((refine Exec.buildSlice (tysOk.get rfl) rfl (tysOk.get rfl) rfl rfl rfl rfl rfl (by repeat (first | exact BuildP.nil | ((apply BuildP.many); (rfl); (rfl); (rfl); (rfl); (repeat (first | exact PutL.nil | ((apply PutL.cons); (repeat (first | exact SetL.z | apply SetL.s)))))))) rfl (fun b => ?_))))); (refine ⟨(by first | exact Mem.le.refl _ | assumption), (by exact (Sub.mem (by repeat (first | exact Sub.refl | apply Sub.cons)))), ?_⟩); (refine TrA.effD 9 rfl (by kernel_rfl) (by kernel_rfl) (by exact .inl rfl) ?_))
   refine Exec.append (news := [.int .i64 (i : Int), .slice A5 (becF k l s.br i).length c5]) rfl rfl (tysOk.get rfl) rfl (tysOk.get rfl) rfl rfl rfl rfl (by repeat (first | exact Del.here | apply Del.there)) (Src.box (by repeat (first | exact Has.here | apply Has.there))) rfl (by intro u hu; simp at hu; rcases hu with rfl | rfl <;> rfl) (by omega) (by omega) rfl (fun A7 c7 hc7 => ?_)
   refine ⟨_, fun _ h => h, ?_⟩
   ((refine TrA.effD 10 rfl (by kernel_rfl) (by kernel_rfl) (by exact .inl rfl) ?_); (((refine Knd.store ?_); ((refine xSQ ?_)))); (refine ⟨_, fun _ h => h, ?_⟩); (refine TrA.done (by kernel_rfl) ?_))
   refine gvQ (r := box b _ _) ?_
   have hel2 : Elems 2 RBr M3 (cells ++ [.int .i64 (i : Int), .slice A5 (becF k l s.br i).length c5]) (brkN k l s (i + 1)) := by
    rw [hnx]
    exact (hel.mono RBr.mono hm3).append (Elems.one rfl ⟨A5, c5, rfl, hI⟩)
   rw [show (brkN k l s i).length + 1 = (brkN k l s (i + 1)).length by rw [hnx, List.length_append]; rfl]
   (refine rQ ?_)
   exact Tr.again (i + 1, M3, A7, c7, _) ⟨by simp only; omega, hm2.trans hm3, hc7, hel2⟩ (by simp only; omega) hsQ
  ·rw [if_neg h0, List.append_nil] at hnx
   rw [← hnx]
   (refine rQ ?_)
   exact Tr.again (i + 1, M2, A1, c1, cells) ⟨by simp only; omega, hm2, hc1, by rw [hnx]; exact hel⟩ (by simp only; omega) hsQ
 have ei : s.br.length = i := by omega
 subst ei
 refine pbQ (r := ownS 70 2 A1 _ _ _) (fun M3 hm3 ok3 => ?_)
 have i3 := SlOf.ofOwn ok3 rfl hc1 (hel.mono RBr.mono hm3)
 have hlast := hm.trans (hm2.trans hm3)
 (refine rQ ?_)
 refine Tr.ofPost ?_
 exact Tr.doneB (A' := [box b4 63 [.slice A1 (brkF k l s).length c1]]) [_, _, _] (by first | exact .inl rfl | exact .inr rfl) rfl (by repeat (exact RVs.nil)) hlast (List.Perm.refl _) ⟨s, A1, c1, hrun, i3, rfl⟩
end Go.Proofs.Ytcadnjmcmegpjaa

/-
 Honour: Broken; the state of a result.
 Conditions: none.
-/
namespace Go.Proofs.Ytcadnjmcmegpjaa
open Go Bf
attribute [local irreducible] Tr Exec Stab HasTy Go.Addr.add IntKind.wrap
noncomputable def brokenF (k : Bk) (l : List Hp) : List (Nat × List Nat) × Int := match runF k l with
 | some s => (brkF k l s, 0)
 | none => ([], 330)
set_option maxHeartbeats 4000000 in
theorem broken_fn (M : Mem) (v : Value) (k : Bk) (h : RBk M v k) (A : Option Addr) (c : Nat) (l : List Hp) (hl : SlOf 5 RHp M (.slice A l.length c) l) (hll : l.length ≤ 1000) :
  Fn0 Try.prog 10 [v, .slice A l.length c] M (fun r M' => ∃ A9 c9, r = .tuple #[.slice A9 (brokenF k l).1.length c9, .int .i64 (brokenF k l).2] ∧ SlOf 2 RBr M' (.slice A9 (brokenF k l).1.length c9) (brokenF k l).1) := by
 obtain ⟨v1, v2, v3, v4, v5, rfl, o1, o2, o3, o4, o5⟩ := h.open5
 refine Fn.intro Try.func10 rfl rfl Try.ntmps10 rfl fun E F => ?_
 (repeat (first | ((with_reducible refine Tr.step rfl ?_); (first | (refine xaQ ?_) | ((with_reducible refine Knd.makeFunc ?_); (refine Exec.stab rfl (Stab.makeFunc rfl rfl) rfl ?_)) | ((with_reducible refine Knd.box ?_); (first | (refine Exec.box rfl rfl (fun b => ?_)) | (refine Exec.box1 rfl (by first | rfl | assumption) rfl (fun b => ?_)))) | ((with_reducible refine Knd.alloc ?_); (refine Exec.alloc1 (tysOk.get rfl) rfl rfl rfl (fun b => ?_))))) | (with_reducible first | apply Tr.next | apply Tr.seq | apply Tr.region | apply Tr.nil)))
 generalize b = b4
 rename_i b2 b3
 ((refine Tr.step rfl ?_))
 refine Exec.call (A := [box b2 47 [v1, v2, v3, v4, v5], box b3 41 [.slice A l.length c], box b4 63 [.slice none 0 0]]) rfl (attempt_fn M 28 [.pointer (some ⟨b2, 0, none⟩), .pointer (some ⟨b3, 0, none⟩), .pointer (some ⟨b4, 0, none⟩)] _ _ _ (broken1_fn M k v1 v2 v3 v4 v5 h A c l hl hll b2 b3 b4) (fun ch M' A' h => h.1)) (rev3 _ _ _ _) rfl ?_
 rintro r M' A' hm (⟨rfl, -, s, A9, c9, hs, hB, rfl⟩ | ⟨rfl, -, hn, rfl⟩)
 ·simp only [List.cons_append, List.nil_append]
  (refine rQ ?_)
  (refine Tr.done (by first | exact .inl rfl | exact .inr rfl) rfl (by repeat (first | exact RVs.nil | (apply RVs.cons; (first | exact RV.tmp rfl | exact RV.cell (by rfl) (tysOk.get (by rfl)) (by rfl) (by repeat (first | exact Has.here | apply Has.there)))))) (by first | exact Mem.le.refl _ | assumption) (by exact ⟨[_], rfl⟩) ⟨rfl, ?_⟩)
  rw [brokenF, hs]
  exact ⟨A9, c9, rfl, hB⟩
 ·simp only [List.cons_append, List.nil_append]
  (refine rQ ?_)
  (refine Tr.done (by first | exact .inl rfl | exact .inr rfl) rfl (by repeat (first | exact RVs.nil | (apply RVs.cons; (first | exact RV.tmp rfl | exact RV.cell (by rfl) (tysOk.get (by rfl)) (by rfl) (by repeat (first | exact Has.here | apply Has.there)))))) (by first | exact Mem.le.refl _ | assumption) (by exact ⟨[_], rfl⟩) ⟨rfl, ?_⟩)
  rw [brokenF, hn]
  exact ⟨none, 0, rfl, SlOf.nil _ _ _⟩
/-! the state of a result -/
theorem list_eq {α : Type} {l m : List α} (d : α) (hl : l.length = m.length) (h : ∀ i, i < l.length → l.getD i d = m.getD i d) : l = m := by
 apply List.ext_getElem hl
 intro i h1 h2
 have := h i h1
 rwa [List.getD_eq_getElem?_getD, List.getD_eq_getElem?_getD, List.getElem?_eq_getElem h1, List.getElem?_eq_getElem h2] at this
theorem res_len (k : Bk) (s : St) : (resF k s).sups.length = k.sups.length ∧ (resF k s).reqs.length = k.reqs.length := by simp [resF]
theorem res_am {k : Bk} {s : St} (h : s.am.length = k.sups.length) : (beginF (resF k s)).am = s.am := by
 refine list_eq 0 (by simp [beginF, resF, h]) (fun i hi => ?_)
 have hi2 : i < k.sups.length := by simpa [beginF, resF] using hi
 simp [beginF, resF, setSup, List.getD_eq_getElem?_getD, hi2]
theorem res_nd {k : Bk} {s : St} (h : s.nd.length = k.reqs.length) (hb : s.br.length = k.reqs.length) : (beginF (resF k s)).nd = mskL s.nd (askF s) := by
 refine list_eq 0 (by simp [beginF, resF, mskL, h]) (fun i hi => ?_)
 have hi2 : i < k.reqs.length := by simpa [beginF, resF] using hi
 rw [mskL_getD]
 have : askF s i = decide (s.br.getD i 0 < 0) := by rw [askF, hb, decide_eq_true hi2, Bool.true_and]
 rw [this]
 have e : (beginF (resF k s)).nd.getD i 0 = if 0 ≤ s.br.getD i 0 then 0 else s.nd.getD i 0 := by
  simp [beginF, resF, setReq, List.getD_eq_getElem?_getD, hi2]
 rw [e]
 by_cases c : 0 ≤ s.br.getD i 0
 ·rw [if_pos c, if_neg (by rw [decide_eq_true_iff]; omega)]
 ·rw [if_neg c, if_pos (by rw [decide_eq_true_iff]; omega)]
theorem res_due (k : Bk) (s : St) : (fxB (resF k s)).due = (fxB k).due := by
 refine list_eq 0 (by simp [fxB, resF]) (fun i hi => ?_)
 have hi2 : i < k.reqs.length := by simpa [fxB, resF] using hi
 simp [fxB, resF, setReq, List.getD_eq_getElem?_getD, hi2]
theorem mskL_rng {nd : List Int} {S : Nat → Bool} (h : ∀ a ∈ nd, 0 ≤ a ∧ a ≤ 1048576) : ∀ a ∈ mskL nd S, 0 ≤ a ∧ a ≤ 1048576 := fun a ha => by
 simp only [mskL, List.mem_map, List.mem_range] at ha
 obtain ⟨i, hi, rfl⟩ := ha
 split
 ·exact getD_rng h i
 ·omega
theorem res_vld {x : Fx} {s : St} (h : Fit x s) : Vld (tabL x.fits x.due s.dy) s.am (mskL s.nd (askF s)) :=
 ⟨h.l64, by rw [mskL_length]; exact h.r64, by rw [tabL_length]; exact h.dyl, fun r hr => by rw [tabL_row hr, mskL_length]; exact h.dul, h.amr, mskL_rng h.ndr⟩
theorem allocOf_unique {fits : List (List Bool)} {sup need : List Int} {a a' : Nat → Nat → Int} (h : LexMax (pbOf fits sup need) a) (h' : LexMax (pbOf fits sup need) a') : allocOf a need.length sup.length = allocOf a' need.length sup.length := by
 unfold allocOf
 apply List.map_congr_left
 intro i hi
 apply List.map_congr_left
 intro j hj
 exact h.unique h' i (List.mem_range.1 hi) j (List.mem_range.1 hj)
open Classical in
noncomputable def alF (fits : List (List Bool)) (sup need : List Int) : List (List Int) := if h : ∃ a, LexMax (pbOf fits sup need) a then allocOf (Classical.choose h) need.length sup.length else []
theorem alF_eq {fits : List (List Bool)} {sup need : List Int} {a : Nat → Nat → Int} (h : LexMax (pbOf fits sup need) a) : alF fits sup need = allocOf a need.length sup.length := by
 have he : ∃ a, LexMax (pbOf fits sup need) a := ⟨a, h⟩
 unfold alF
 rw [dif_pos he]
 exact allocOf_unique (Classical.choose_spec he) h
end Go.Proofs.Ytcadnjmcmegpjaa

/-
 Honour: Ship.
 Conditions: none.
-/
namespace Go.Proofs.Ytcadnjmcmegpjaa
open Go Bf
attribute [local irreducible] Tr Exec Stab HasTy Go.Addr.add IntKind.wrap
def hpC (h : Hp) : List Value := [.int .i64 h.kind, .int .i64 h.sup, .int .i64 h.req, .int .i64 h.day, .int .i64 h.amt]
theorem hpC_len (h : Hp) : (hpC h).length = 5 := rfl
def amv (am : List (List Int)) (i j : Nat) : Int := (am.getD i []).getD j 0
def shIn (am : List (List Int)) (j : Nat) (day : Int) (n : Nat) : List Hp := (List.range n).flatMap fun i => if 0 < amv am i j then [⟨3, (i : Int), (j : Int), day, amv am i j⟩] else []
def shOut (am : List (List Int)) (reqs : List Rq) (day : Int) (ns m : Nat) : List Hp := (List.range m).flatMap fun j => if (reqs.map (·.due)).getD j 0 = day then shIn am j day ns else []
theorem shIn_succ (am : List (List Int)) (j : Nat) (day : Int) (n : Nat) : shIn am j day (n + 1) = shIn am j day n ++ if 0 < amv am n j then [⟨3, (n : Int), (j : Int), day, amv am n j⟩] else [] := by
 rw [shIn, List.range_succ, List.flatMap_append, shIn]
 simp
theorem shOut_succ (am : List (List Int)) (reqs : List Rq) (day : Int) (ns m : Nat) : shOut am reqs day ns (m + 1) = shOut am reqs day ns m ++ if (reqs.map (·.due)).getD m 0 = day then shIn am m day ns else [] := by
 rw [shOut, List.range_succ, List.flatMap_append, shOut]
 simp
theorem shIn_len (am : List (List Int)) (j : Nat) (day : Int) (n : Nat) : (shIn am j day n).length ≤ n := by
 induction n with
 | zero => exact Nat.le_refl _
 | succ n ih =>
  rw [shIn_succ, List.length_append]
  split
  ·rw [List.length_singleton]; omega
  ·rw [List.length_nil]; omega
theorem shOut_len (am : List (List Int)) (reqs : List Rq) (day : Int) (ns m : Nat) : (shOut am reqs day ns m).length ≤ m * ns := by
 induction m with
 | zero => exact Nat.zero_le _
 | succ m ih =>
  rw [shOut_succ, List.length_append, Nat.succ_mul]
  have := shIn_len am m day ns
  split
  ·omega
  ·rw [List.length_nil]; omega
noncomputable def shipsOf (y : Bk) (day : Int) : List Hp := shOut (alF y.fits (beginF y).am (beginF y).nd) y.reqs day y.sups.length y.reqs.length
noncomputable def shipL (k : Bk) (l : List Hp) (day : Int) : List Hp × Int := match runF k l with
 | some s => if 0 ≤ day ∧ day ≤ 1023 then (shipsOf (resF k s) day, 0) else ([], 330)
 | none => ([], 330)
def ShipEx (k : Bk) (l : List Hp) (day : Int) : Prop := ∀ s, runF k l = some s → 0 ≤ day ∧ day ≤ 1023 → ∃ a, LexMax (pbOf (resF k s).fits (beginF (resF k s)).am (beginF (resF k s)).nd) a
theorem i64s_of {l : List Int} (h : ∀ a ∈ l, 0 ≤ a ∧ a ≤ 1048576) : I64s l := fun a ha => by have := h a ha; omega
set_option maxHeartbeats 16000000 in
theorem ship0_fn (M : Mem) (v : Value) (k : Bk) (h : RBk M v k) (A : Option Addr) (c : Nat) (l : List Hp) (hl : SlOf 5 RHp M (.slice A l.length c) l) (day : Int) :
  Fn0 Try.prog 9 [v, .slice A l.length c, .int .i64 day] M (fun r M' => ∃ A9 c9, r = .tuple #[.slice A9 (shipL k l day).1.length c9, .int .i64 (shipL k l day).2] ∧ SlOf 5 RHp M' (.slice A9 (shipL k l day).1.length c9) (shipL k l day).1 ∧ ShipEx k l day) := by
 have hdo := do_fn M v k h A c l hl
 obtain ⟨v1, v2, v3, v4, v5, rfl, o1, o2, o3, o4, o5⟩ := h.open5
 refine Fn.intro Try.func9 rfl rfl Try.ntmps9 rfl fun E F => ?_
 (repeat (first | ((with_reducible refine Tr.step rfl ?_); (first | (refine xmQ ?_) | (refine xaQ ?_) | (refine xwQ ?_) | ((with_reducible refine Knd.box ?_); (refine Exec.box rfl rfl (fun b => ?_))))) | (with_reducible first | apply Tr.next | apply Tr.seq | apply Tr.region | apply Tr.nil)))
 ((refine Tr.step rfl ?_))
 refine Exec.call0 rfl hdo rfl ?_
 rintro _ M1 hm1 ⟨w, rfl, hB⟩
 have hw := hB.open5
 obtain ⟨u1, u2, u3, u4, u5, rfl, p1, p2, p3, p4, p5⟩ := hw
 cases hrun : runF k l with
 | none =>
  have e1 : doF k l = (zB, 330) := by rw [doF, hrun]
  have e2 : shipL k l day = ([], 330) := by rw [shipL, hrun]
  rw [e1]
  rw [e2]
  dsimp only
  (repeat (first | ((with_reducible refine Tr.step rfl ?_); (first | (refine xmQ ?_) | (refine xaQ ?_) | (refine xiQ ?_) | (refine xWQ ?_) | ((with_reducible refine Knd.alloc ?_); (refine Exec.alloc (tysOk.get rfl) rfl rfl (fun b => ?_))) | ((with_reducible refine Knd.extract ?_); (refine Exec.stab rfl (Stab.extract rfl rfl) rfl ?_)))) | (with_reducible first | apply Tr.next | apply Tr.seq | apply Tr.region | apply Tr.nil | apply Tr.ret | apply Tr.then_ret) | (refine Tr.cond_t rfl (by first | (with_reducible assumption) | omega) ?_)))
  (refine dnQ (hL := by exact ⟨[_, _], rfl⟩) ⟨rfl, ?_⟩)
  exact ⟨none, 0, rfl, SlOf.nil _ _ _, fun s hs => by rw [hrun] at hs; cases hs⟩
 | some s =>
 have e1 : doF k l = (resF k s, 0) := by rw [doF, hrun]
 rw [e1] at hB ⊢
 dsimp only at hB ⊢
 obtain ⟨hfb, hfit, hheld⟩ := run_keep hrun
 obtain ⟨n1, n2, n3, n4⟩ := run_len hrun
 (repeat (first | ((with_reducible refine Tr.step rfl ?_); (first | (refine xmQ ?_) | (refine xaQ ?_) | (refine xiQ ?_) | (refine xWQ ?_) | ((with_reducible refine Knd.alloc ?_); (refine Exec.alloc (tysOk.get rfl) rfl rfl (fun b => ?_))) | ((with_reducible refine Knd.extract ?_); (refine Exec.stab rfl (Stab.extract rfl rfl) rfl ?_)))) | (with_reducible first | apply Tr.next | apply Tr.seq | apply Tr.region | apply Tr.nil | apply Tr.skip) | (refine Tr.cond_f rfl (by (with_reducible exact (not_not_intro rfl))) ?_)))
 ((refine Tr.step rfl ?_)); refine Exec.call0 rfl (between_fn M1 day 0 1023) rfl ?_
 rintro _ _ _ ⟨rfl, rfl⟩
 by_cases hd : 0 ≤ day ∧ day ≤ 1023
 rotate_left
 ·have e2 : shipL k l day = ([], 330) := by rw [shipL, hrun]; exact if_neg hd
  rw [decide_eq_false hd, e2]
  (refine rQ ?_)
  (refine dnQ (hL := by exact ⟨[_, _], rfl⟩) ⟨rfl, ?_⟩)
  exact ⟨none, 0, rfl, SlOf.nil _ _ _, fun _ _ h => absurd h hd⟩
 have e2 : shipL k l day = (shipsOf (resF k s) day, 0) := by rw [shipL, hrun]; exact if_pos hd
 rw [decide_eq_true hd, e2]
 have hB0 := hB
 obtain ⟨As, cs, Ar, cr, Af, cf, Ad, cd, ev, h1, h2, h3⟩ := hB
 injection ev with ev
 simp only [Array.mk.injEq, List.cons.injEq, and_true] at ev
 obtain ⟨rfl, rfl, rfl, rfl, rfl⟩ := ev
 have hbe := fun M2 hm2 => hbegin_fn M2 _ (resF k s) (hB0.mono hm2) (by rw [(res_len k s).1]; have := hfb.1; omega) (by rw [(res_len k s).2]; have := hfb.2.1; omega)
 (refine rQ ?_)
 ((refine Tr.step rfl ?_)); refine Exec.call0 rfl (hbe M1 (Mem.le.refl _)) rfl ?_
 rintro r2 M2 hm2 ⟨Bf, kf, Ba, ka, Bd, kd, Bn, kn, Bu, ku, Bb, kb, rfl, q1, q2, q3, q4, q5, q6⟩
 have hv := res_vld hfit
 have eam := res_am n1
 have end_ := res_nd n2 n4
 have hfe : Feas (pbOf (resF k s).fits (beginF (resF k s)).am (beginF (resF k s)).nd) := by
  rw [eam, end_]; exact hheld
 have hvv : Vld (resF k s).fits (beginF (resF k s)).am (beginF (resF k s)).nd := by
  rw [eam, end_]; exact hv
 (repeat (first | ((with_reducible refine Tr.step rfl ?_); (first | (refine xlQ ?_) | (refine xfQ ?_) | (refine xWQ ?_) | ((with_reducible refine Knd.alloc ?_); (refine Exec.alloc (tysOk.get rfl) rfl rfl (fun b => ?_))))) | (with_reducible first | apply Tr.next | apply Tr.seq | apply Tr.region | apply Tr.nil)))
 ((refine Tr.step rfl ?_)); refine Exec.call0 rfl (flow_fn M2 Af Ba Bn cf ka kn (resF k s).fits (beginF (resF k s)).am (beginF (resF k s)).nd (h3.mono RRowB.mono hm2) q2 q4 (i64s_of hvv.rs) (i64s_of hvv.rn)) rfl ?_
 rintro r3 M3 hm3 hfl
 rcases hfl with ⟨hbad, rfl⟩ | ⟨-, hnf, -⟩ | ⟨-, a, hmax, B1, k1, rfl, hI⟩
 ·rw [vld_iff.2 hvv] at hbad; cases hbad
 ·exact absurd hfe hnf
 have hex : ShipEx k l day := fun s' hs' _ => by rw [hrun] at hs'; cases hs'; exact ⟨a, hmax⟩
 have eal := alF_eq hmax
 have hns : (beginF (resF k s)).am.length = (resF k s).sups.length := (begin_len _).1
 have hnr : (beginF (resF k s)).nd.length = (resF k s).reqs.length := (begin_len _).2.1
 have hlen : (alF (resF k s).fits (beginF (resF k s)).am (beginF (resF k s)).nd).length = (resF k s).sups.length := by rw [eal, allocOf_length, hns]
 have hrowl : ∀ i (r : List Int), (alF (resF k s).fits (beginF (resF k s)).am (beginF (resF k s)).nd)[i]? = some r → r.length = (resF k s).reqs.length := fun i r hr => by
  rw [eal] at hr
  have := List.mem_of_getElem? hr
  simp only [allocOf, List.mem_map, List.mem_range] at this
  obtain ⟨i', -, rfl⟩ := this
  rw [← hnr]
  simp [rowOf]
 rw [← eal] at hI ⊢
 rw [shipsOf]
 rw [hlen] at hI ⊢
 have s64 : (resF k s).sups.length ≤ 64 := by rw [(res_len k s).1]; exact hfb.1
 have r64 : (resF k s).reqs.length ≤ 64 := by rw [(res_len k s).2]; exact hfb.2.1
 have h2' := h2.mono RRq.mono (hm2.trans hm3)
 generalize alF (resF k s).fits (beginF (resF k s)).am (beginF (resF k s)).nd = am at hI hlen hrowl
 (refine rQ ?_)
 refine Tr.less [(49, .int .i64 0), (48, .int .i64 ((resF k s).reqs.length : Int)), (47, .slice Ar (resF k s).reqs.length cr), (6, .slice none 0 0), (10, .slice B1 (resF k s).sups.length k1), (2, .int .i64 day)] F (by repeat (first | exact SubFr.nil | refine SubFr.cons rfl ?_)) (by repeat (first | exact DropL.refl | apply DropL.skip)) ?_
 clear hbe hmax hvv hfe hB0 h3 q1 q2 q3 q4 q5 q6 hdo h1 h2
 have hM3 := hm1.trans (hm2.trans hm3)
 generalize hY : resF k s = Y at s64 r64 h2' hI hlen hrowl
 refine Tr.own_nil 59 5 ?_
 refine Tr.loop (α := Nat × Option Addr × Nat) (fun y => ⟨84, [(49, .int .i64 (y.1 : Int)), (48, .int .i64 (Y.reqs.length : Int)), (47, .slice Ar Y.reqs.length cr), (6, .slice y.2.1 (shOut am Y.reqs day Y.sups.length y.1).length y.2.2), (10, .slice B1 Y.sups.length k1), (2, .int .i64 day)], [], M3,
   ownS 59 5 y.2.1 (shOut am Y.reqs day Y.sups.length y.1).length y.2.2 ((shOut am Y.reqs day Y.sups.length y.1).flatMap hpC) :: F⟩)
  (fun y => y.1 ≤ Y.reqs.length ∧ y.2.2 ≤ 9223372036854775807) (fun y => Y.reqs.length - y.1) (0, none, 0) ⟨Nat.zero_le _, by show (0 : Nat) ≤ _; omega⟩ hsQ (fun y hy => ?_)
 obtain ⟨j, A1, c1⟩ := y
 obtain ⟨hj, hc1⟩ := hy
 dsimp only at hj hc1
 dsimp only
 have hol := shOut_len am Y.reqs day Y.sups.length j
 have hol2 : j * Y.sups.length ≤ 64 * 64 := Nat.mul_le_mul (by omega) s64
 by_cases hlt : j < Y.reqs.length
 rotate_left
 ·have ej : Y.reqs.length = j := by omega
  subst ej
  refine pbQ (r := ownS 59 5 A1 _ _ _) (fun M4 hm4 ok4 => ?_)
  have i4 := SlOf.ofOwn ok4 rfl hc1 (Elems.flat (R := RHp) hpC_len (fun _ => rfl) _)
  have hlast := hM3.trans hm4
  (refine rQ ?_)
  (refine dnQ (hL := by exact ⟨[], rfl⟩) ⟨rfl, ?_⟩)
  exact ⟨A1, c1, rfl, i4, hex⟩
 obtain ⟨r, hr⟩ := get_of_lt hlt
 obtain ⟨hA, ch, hat, rfl⟩ := h2'.elem hr
 have hnx := shOut_succ am Y.reqs day Y.sups.length j
 have hdue : (Y.reqs.map (·.due)).getD j 0 = r.due := by simp [List.getD_eq_getElem?_getD, hr]
 rw [hdue] at hnx
 by_cases hday : r.due = day
 rotate_left
 ·rw [if_neg hday, List.append_nil] at hnx
  rw [← hnx]
  (repeat (first | ((with_reducible refine Tr.step rfl ?_); (first | (refine xmQ ?_) | (refine xaQ ?_) | ((with_reducible refine Knd.load ?_); (first | (refine xlQ ?_) | (refine Exec.stab rfl (Stab.loadMA rfl (tysOk.get rfl) rfl (by assumption) (by first | rfl | assumption)) rfl ?_))) | (refine xfQ ?_) | ((with_reducible refine Knd.binOp ?_); (first | (refine xdQ ?_) | (refine xiQ ?_))) | (refine xWQ ?_) | ((with_reducible refine Knd.alloc ?_); (refine Exec.alloc (tysOk.get rfl) rfl rfl (fun b => ?_))) | (refine xxQ ?_))) | (with_reducible first | apply Tr.next | apply Tr.seq | apply Tr.region | apply Tr.nil | apply Tr.skip | apply Tr.block | apply Tr.exit | apply Tr.then_exit) | ((with_reducible refine Tr.in_exit ?_ ?_); (exact rfl)) | (refine Tr.cond_t rfl (by first | (with_reducible assumption) | omega) ?_)))
  refine gvQ (r := box b _ _) ?_
  exact Tr.again (j + 1, A1, c1) ⟨by simp only; omega, hc1⟩ (by simp only; omega) hsQ
 rw [if_pos hday] at hnx
 (repeat (first | ((with_reducible refine Tr.step rfl ?_); (first | (refine xmQ ?_) | (refine xaQ ?_) | ((with_reducible refine Knd.load ?_); (first | (refine xlQ ?_) | (refine Exec.stab rfl (Stab.loadMA rfl (tysOk.get rfl) rfl (by assumption) (by first | rfl | assumption)) rfl ?_))) | (refine xfQ ?_) | (refine xnQ ?_) | (refine xiQ ?_) | (refine xWQ ?_) | ((with_reducible refine Knd.alloc ?_); (refine Exec.alloc (tysOk.get rfl) rfl rfl (fun b => ?_))) | (refine xxQ ?_))) | (with_reducible first | apply Tr.next | apply Tr.seq | apply Tr.region | apply Tr.nil | apply Tr.skip | apply Tr.block) | (refine Tr.cond_t rfl (by first | (with_reducible assumption) | omega) ?_) | (refine Tr.cond_f rfl (by omega) ?_)))
 refine gvQ (r := box b _ _) ?_
 generalize shOut am Y.reqs day Y.sups.length j = sj at hnx hol
 have ein : sj = sj ++ shIn am j day 0 := (List.append_nil _).symm
 rw [ein]
 refine Tr.loop (α := Nat × Option Addr × Nat) (fun y => ⟨84, [(60, .int .i64 (y.1 : Int)), (59, .int .i64 (Y.sups.length : Int)), (58, .slice B1 Y.sups.length k1), (13, .int .i64 (j : Int)), (49, .int .i64 (j : Int)), (48, .int .i64 (Y.reqs.length : Int)), (47, .slice Ar Y.reqs.length cr), (6, .slice y.2.1 (sj ++ shIn am j day y.1).length y.2.2), (10, .slice B1 Y.sups.length k1), (2, .int .i64 day)], [], M3,
   ownS 59 5 y.2.1 (sj ++ shIn am j day y.1).length y.2.2 ((sj ++ shIn am j day y.1).flatMap hpC) :: F⟩)
  (fun y => y.1 ≤ Y.sups.length ∧ y.2.2 ≤ 9223372036854775807) (fun y => Y.sups.length - y.1) (0, A1, c1) ⟨Nat.zero_le _, hc1⟩ hsQ (fun y hy => ?_)
 clear hc1
 obtain ⟨i, A2, c2⟩ := y
 obtain ⟨hi, hc2⟩ := hy
 dsimp only at hi hc2
 dsimp only
 have hil := shIn_len am j day i
 by_cases hlt2 : i < Y.sups.length
 rotate_left
 ·have ei : Y.sups.length = i := by omega
  subst ei
  rw [← hnx]
  (refine rQ ?_)
  exact Tr.again (j + 1, A2, c2) ⟨by simp only; omega, hc2⟩ (by simp only; omega) hsQ
 obtain ⟨row, hrow⟩ := get_of_lt (xs := am) (i := i) (by omega)
 obtain ⟨hA3, ch3, hat3, Aw, kw, rfl, hrI⟩ := hI.elem hrow
 have hrl := hrowl i row hrow
 obtain ⟨x, hx⟩ := get_of_lt (xs := row) (i := j) (by omega)
 obtain ⟨hA4, hat4⟩ := Ints.at hrI hx
 have hin := shIn_succ am j day i
 have hamv : amv am i j = x := by rw [amv, getD_of (d := []) hrow, getD_of (d := (0 : Int)) hx]
 rw [hamv] at hin
 by_cases hx0 : 0 < x
 ·rw [if_pos hx0] at hin
  (repeat (first | ((with_reducible refine Tr.step rfl ?_); (first | (refine xmQ ?_) | (refine xaQ ?_) | (refine xMQ ?_) | (refine xiQ ?_) | (refine xxQ ?_) | ((with_reducible refine Knd.build ?_); (refine Exec.stab rfl (Stab.build tysOk rfl rfl rfl rfl (by repeat (first | exact BuildP.nil | ((apply BuildP.one); (rfl); (rfl); (first | rfl | assumption); (repeat (first | exact SetL.z | apply SetL.s)))))) rfl ?_)) | ((with_reducible refine Knd.buildSlice ?_); (refine Exec.buildSlice (tysOk.get rfl) rfl (tysOk.get rfl) rfl rfl rfl rfl rfl (by repeat (first | exact BuildP.nil | ((apply BuildP.many); (rfl); (rfl); (rfl); (rfl); (repeat (first | exact PutL.nil | ((apply PutL.cons); (repeat (first | exact SetL.z | apply SetL.s)))))))) rfl (fun b => ?_))))) | (with_reducible first | apply Tr.next | apply Tr.seq | apply Tr.region | apply Tr.nil | apply Tr.skip | apply Tr.block) | (refine Tr.cond_t rfl (by first | (with_reducible assumption) | omega) ?_)))
  ((refine Tr.step rfl ?_))
  refine Exec.append (news := hpC ⟨3, (i : Int), (j : Int), day, x⟩) rfl rfl (tysOk.get rfl) rfl (tysOk.get rfl) rfl rfl rfl rfl (by repeat (first | exact Del.here | apply Del.there)) (Src.box (by repeat (first | exact Has.here | apply Has.there))) rfl (by intro u hu; simp only [hpC, List.mem_cons, List.not_mem_nil, or_false] at hu; rcases hu with rfl | rfl | rfl | rfl | rfl <;> rfl) (by rw [List.length_append]; omega) (by rw [List.length_append]; omega) rfl (fun A7 c7 hc7 => ?_)
  refine gvQ (r := box b _ _) ?_
  rw [show (sj ++ shIn am j day i).flatMap hpC ++ hpC ⟨3, (i : Int), (j : Int), day, x⟩ = (sj ++ shIn am j day (i + 1)).flatMap hpC by rw [hin, ← List.append_assoc, List.flatMap_append (ys := [_])]; simp, show (sj ++ shIn am j day i).length + 1 = (sj ++ shIn am j day (i + 1)).length by rw [hin, List.length_append, List.length_append, List.length_append]; rfl]
  (refine rQ ?_)
  exact Tr.again (i + 1, A7, c7) ⟨by simp only; omega, hc7⟩ (by simp only; omega) hsQ
 ·rw [if_neg hx0, List.append_nil] at hin
  rw [← hin]
  (refine rQ ?_)
  exact Tr.again (i + 1, A2, c2) ⟨by simp only; omega, hc2⟩ (by simp only; omega) hsQ
end Go.Proofs.Ytcadnjmcmegpjaa

/-
 What fits, and what is shipped, summed up.
 Conditions: none.
-/
namespace Go.Proofs.Ytcadnjmcmegpjaa
open Go Bf
attribute [local irreducible] Tr Exec Stab HasTy Go.Addr.add IntKind.wrap
set_option maxRecDepth 20000 in
theorem cfits_fn (M : Mem) (ws : List Value) (w : Wd) (hw : RWd M ws w) (s : Sp) (r : Rq) (hs : okSp s) (hr : okRq r) (known : Int) :
  Fn0 Try.prog 12 [.agg ws.toArray, .agg #[.int .i64 s.no, .int .i64 s.item, .int .i64 s.plant, .int .i64 s.ready, .int .i64 s.expiry, .int .i64 s.amount], .agg #[.int .i64 r.no, .int .i64 r.item, .int .i64 r.cust, .int .i64 r.due, .int .i64 r.shelf, .int .i64 r.amount], .int .i64 known] M (fun x _ => ∃ A n c, x = .tuple #[.bool (fitF w known s r), .slice A n c]) := by
 have h11 := hw.len
 refine Fn.intro Try.func12 rfl rfl Try.ntmps12 rfl fun E F => ?_
 (repeat (first | ((with_reducible refine Tr.step rfl ?_); (first | (refine xaQ ?_) | (refine xwQ ?_) | ((with_reducible refine Knd.box ?_); (refine Exec.box rfl rfl (fun b => ?_))))) | (with_reducible first | apply Tr.next | apply Tr.seq | apply Tr.region | apply Tr.nil)))
 rename_i b4 b5
 generalize b = b6
 ((refine Tr.step rfl ?_)); refine Exec.call0 rfl (validSupply_fn M s) rfl ?_
 rintro _ _ _ ⟨rfl, rfl⟩
 rw [decide_eq_true hs]
 (refine rQ ?_)
 ((refine Tr.guard_l rfl rfl rfl (by first | (with_reducible rfl) | (with_reducible assumption) | (with_reducible exact Bool.not_true) | (with_reducible exact Bool.not_false)) ?_)); refine Exec.call0 rfl (validRequest_fn M r) rfl ?_
 rintro _ _ _ ⟨rfl, rfl⟩
 rw [decide_eq_true hr]
 (repeat (first | ((with_reducible refine Tr.step rfl ?_); (first | (refine xmQ ?_) | ((with_reducible refine Knd.pick ?_); (refine Exec.stab rfl (Stab.pick_f rfl (by first | (with_reducible rfl) | (with_reducible assumption) | (with_reducible exact Bool.not_true) | (with_reducible exact Bool.not_false)) rfl) rfl ?_)))) | ((refine Tr.guard_l rfl rfl rfl (by first | (with_reducible rfl) | (with_reducible assumption) | (with_reducible exact Bool.not_true) | (with_reducible exact Bool.not_false)) ?_); (first | ((with_reducible refine Knd.load ?_); (first | (refine xwQ ?_) | (refine Exec.stab rfl (Stab.loadW rfl (tysOk.get rfl) rfl (by repeat (first | exact Has.here | apply Has.there)) (by assumption)) rfl ?_))) | ((with_reducible refine Knd.unOp ?_); (refine Exec.stab rfl (Stab.not rfl) rfl ?_))))))
 ((refine Tr.guard_l rfl rfl rfl (by first | (with_reducible rfl) | (with_reducible assumption) | (with_reducible exact Bool.not_true) | (with_reducible exact Bool.not_false)) ?_)); refine Exec.call0 rfl (couldFit_fn M ws w hw s r hr) rfl ?_
 rintro _ _ _ ⟨rfl, rfl⟩
 cases hc : couldF w s r with
 | false =>
  have e : fitF w known s r = false := by rw [fitF, hc, Bool.false_and]
  rw [e]
  (refine rQ ?_)
  (refine dnQ (hL := by exact ⟨[_, _, _], rfl⟩) ⟨rfl, ?_⟩)
  exact ⟨_, _, _, rfl⟩
 | true =>
 have e : fitF w known s r = !refusedF w (lookF s r) known := by rw [fitF, hc, Bool.true_and]
 rw [e]
 (refine rQ ?_)
 ((refine Tr.step rfl ?_)); refine Exec.call0 rfl (look_fn M s r hr) rfl ?_
 rintro _ _ _ ⟨rfl, rfl⟩
 (repeat (first | ((with_reducible refine Tr.step rfl ?_); (first | ((with_reducible refine Knd.store ?_); (refine Exec.storeW rfl rfl (tysOk.get rfl) (by repeat (first | exact Upd.here | apply Upd.there)) rfl rfl (by repeat (first | (with_reducible assumption) | exact AllOne.nil | exact AllOne.bytes _ | refine AllOne.cons (by first | rfl | assumption) ?_)) ?_)) | ((with_reducible refine Knd.alloc ?_); (refine Exec.alloc (tysOk.get rfl) rfl rfl (fun b => ?_))))) | (with_reducible first | apply Tr.next | apply Tr.seq | apply Tr.nil)))
 generalize b = b10
 (((apply Tr.draw); (kernel_rfl)); (refine tkQ 0 (hB := by exact fun _ h => h) (s := by exact Stab.loadW rfl (tysOk.get rfl) rfl (by repeat (first | exact Has.here | apply Has.there)) (by assumption)) ?_); (refine tkQ 1 (s := by exact swQ) ?_); (refine tkQ 2 (s := by exact Stab.move rfl) ?_); (refine tkQ 5 (s := by exact swQ) ?_))
 ((refine TrM.start1 _ (PA.build1 6 [(34, .agg #[.int .i64 7, .int .i64 r.cust, .int .i64 s.item, .int .i64 r.due, .int .i64 (r.due + 1)])] rfl (by first | exact .inl rfl | exact .inr ⟨_, _, _, rfl, rfl, rfl⟩) rfl (tysOk.get rfl) rfl (tysOk.get rfl) rfl rfl rfl rfl rfl (by first | rfl | assumption) rfl) (by kernel_rfl) ?_); (refine TrM.eff 3 rfl (by kernel_rfl) (by first | exact .inl rfl | exact .inr ⟨_, _, _, rfl, rfl, rfl⟩) (by repeat (first | exact PendOk.nil | refine PendOk.cons rfl (by repeat (first | exact SubFr.nil | refine SubFr.cons rfl ?_)) ?_)) (by exact fun _ h => h) (by repeat (first | apply AppF.cons | exact AppF.nil | exact AppF.app)) (by repeat (first | apply AppF.cons | exact AppF.nil | exact AppF.app)) (fun Y X => ?_)))
 refine Exec.call0 rfl (refused_fn M ws w hw (lookF s r) known) rfl ?_
 rintro _ _ _ ⟨rfl, rfl⟩
 (refine ⟨_, _, (by repeat (first | apply App.cons | exact App.nil | exact App.app)), (by repeat (first | apply App.cons | exact App.nil | exact App.app)), rfl, (by first | exact Mem.le.refl _ | assumption), (by exact fun _ h => h), ?_⟩)
 ((refine TrM.take 4 (by kernel_rfl) rfl (by kernel_rfl) (by first | exact fun _ _ _ h => h | exact fun _ _ _ h => nomatch h.1) (by exact fun _ h => h) rfl (by first | exact Stab.notw rfl | exact Stab.notd rfl | exact Stab.not rfl | exact Stab.neg rfl (by omega)) rfl rfl ?_); (refine TrM.take 7 (by kernel_rfl) rfl (by kernel_rfl) (by first | exact fun _ _ _ h => h | exact fun _ _ _ h => nomatch h.1) (by exact fun _ h => h) rfl (by first | exact Stab.assign rfl) rfl rfl ?_); (refine TrM.settle (by kernel_rfl) (by repeat (first | exact PendOk.nil | refine PendOk.cons rfl (by repeat (first | exact SubFr.nil | refine SubFr.cons rfl ?_)) ?_)) (by exact fun _ h => h) (fun b => ?_)); dsimp only; (refine TrM.take 8 (by kernel_rfl) rfl (by kernel_rfl) (by first | exact fun _ _ _ h => h | exact fun _ _ _ h => nomatch h.1) (by exact (Sub.mem (by repeat (first | exact Sub.refl | apply Sub.cons)))) rfl (by first | exact Stab.assign rfl) rfl rfl ?_); (refine TrM.fin ?_))
 ((refine TrA.done (by kernel_rfl) ?_))
 (repeat (first | (with_reducible first | apply Tr.next | apply Tr.ret)))
 (refine dnQ (hL := by exact ⟨[_, _, _, _, _], rfl⟩) ⟨rfl, ?_⟩)
 have e2 : (!refusedF w (lookF s r) known) = decide (¬ (atF w.facts (lookF s r).1 (lookF s r).2.1 known = some 1)) := decide_not.symm
 rw [e2]
 exact ⟨_, _, _, rfl⟩
def givL (n : Nat) (l : List Hp) : List Int := (List.range n).map fun q => shipN l q
def takL (n : Nat) (l : List Hp) : List Int := (List.range n).map fun i => shipA l i
theorem shipN_snoc (l : List Hp) (z : Hp) (q : Nat) : shipN (l ++ [z]) q = shipN l q + if z.kind = 3 ∧ z.req = (q : Int) then z.amt else 0 := by simp [shipN]
theorem shipA_snoc (l : List Hp) (z : Hp) (q : Nat) : shipA (l ++ [z]) q = shipA l q + if z.kind = 3 ∧ z.sup = (q : Int) then z.amt else 0 := by simp [shipA]
theorem givL_no {n : Nat} {l : List Hp} {z : Hp} (h : z.kind ≠ 3) : givL n (l ++ [z]) = givL n l := by
 unfold givL
 exact List.map_congr_left fun q _ => by rw [shipN_snoc, if_neg (fun c => h c.1)]; omega
theorem takL_no {n : Nat} {l : List Hp} {z : Hp} (h : z.kind ≠ 3) : takL n (l ++ [z]) = takL n l := by
 unfold takL
 exact List.map_congr_left fun q _ => by rw [shipA_snoc, if_neg (fun c => h c.1)]; omega
theorem set_range {v : Int} {n j : Nat} {f g : Nat → Int} (hj : j < n) (h1 : g j = v) (h2 : ∀ q, q ≠ j → g q = f q) : ((List.range n).map f).set j v = (List.range n).map g := by
 apply List.ext_getElem?
 intro i
 rw [List.getElem?_set]
 by_cases e : j = i
 ·subst e
  rw [if_pos rfl, if_pos (by simpa using hj)]
  simp [hj, h1]
 ·rw [if_neg e]
  by_cases hi : i < n
  ·simp [hi, h2 i (fun h => e h.symm)]
  ·simp [hi]
theorem givL_yes {n j : Nat} {l : List Hp} {z : Hp} (h : z.kind = 3) (hz : z.req = (j : Int)) (hj : j < n) : (givL n l).set j (shipN l j + z.amt) = givL n (l ++ [z]) :=
 set_range hj (by rw [shipN_snoc, if_pos ⟨h, hz⟩]) (fun q hq => by rw [shipN_snoc, if_neg (fun c => hq (by have := c.2; omega))]; omega)
theorem takL_yes {n j : Nat} {l : List Hp} {z : Hp} (h : z.kind = 3) (hz : z.sup = (j : Int)) (hj : j < n) : (takL n l).set j (shipA l j + z.amt) = takL n (l ++ [z]) :=
 set_range hj (by rw [shipA_snoc, if_pos ⟨h, hz⟩]) (fun q hq => by rw [shipA_snoc, if_neg (fun c => hq (by have := c.2; omega))]; omega)
theorem givL_get {n j : Nat} (l : List Hp) (hj : j < n) : (givL n l)[j]? = some (shipN l j) := by simp [givL, hj]
theorem takL_get {n j : Nat} (l : List Hp) (hj : j < n) : (takL n l)[j]? = some (shipA l j) := by simp [takL, hj]
theorem givL_len (n : Nat) (l : List Hp) : (givL n l).length = n := by simp [givL]
theorem takL_len (n : Nat) (l : List Hp) : (takL n l).length = n := by simp [takL]
theorem givL_nil (n : Nat) : List.replicate n (Value.int .i64 0) = intV (givL n []) := by
 apply List.ext_getElem?
 intro i
 by_cases h : i < n
 ·rw [List.getElem?_replicate, if_pos h, intV_get (givL_get [] h)]; rfl
 ·rw [List.getElem?_eq_none (by simpa using h), List.getElem?_eq_none (by rw [intV_length, givL_len]; omega)]
theorem ship_small {l : List Hp} (h : ∀ z ∈ l, z.kind = 3 → 1 ≤ z.amt ∧ z.amt ≤ 1048576) (q : Nat) : (0 ≤ shipN l q ∧ shipN l q ≤ 1048576 * l.length) ∧ 0 ≤ shipA l q ∧ shipA l q ≤ 1048576 * l.length := by
 induction l with
 | nil => simp [shipN, shipA]
 | cons a l ih =>
  have := ih fun z hz => h z (List.mem_cons_of_mem _ hz)
  have ha := h a (List.mem_cons_self ..)
  rw [shipN_cons, shipA_cons, List.length_cons]
  refine ⟨?_, ?_⟩
  ·by_cases c : a.kind = 3 ∧ a.req = (q : Int)
   ·rw [if_pos c]; have := ha c.1; omega
   ·rw [if_neg c]; omega
  ·by_cases c : a.kind = 3 ∧ a.sup = (q : Int)
   ·rw [if_pos c]; have := ha c.1; omega
   ·rw [if_neg c]; omega
theorem hp_take {l : List Hp} {i : Nat} {z : Hp} (h : l[i]? = some z) : l.take (i + 1) = l.take i ++ [z] := by rw [List.take_add_one, h]; rfl
set_option maxHeartbeats 8000000 in
set_option maxRecDepth 20000 in
theorem sums_fn (M : Mem) (v : Value) (k : Bk) (h : RBk M v k) (hsl : k.sups.length ≤ 64) (hrl : k.reqs.length ≤ 64) (A : Option Addr) (c : Nat) (l : List Hp) (hl : SlOf 5 RHp M (.slice A l.length c) l) (hll : l.length ≤ 1000) (hok : ∀ z ∈ l, OkH k.sups.length k.reqs.length z) (ham : ∀ z ∈ l, z.kind = 3 → 1 ≤ z.amt ∧ z.amt ≤ 1048576) :
  Fn0 Try.prog 11 [v, .slice A l.length c] M (fun r M' => ∃ G g T t, r = .tuple #[.slice G k.reqs.length g, .slice T k.sups.length t, .bool true] ∧ Ints M' (.slice G k.reqs.length g) (givL k.reqs.length l) ∧ Ints M' (.slice T k.sups.length t) (takL k.sups.length l)) := by
 obtain ⟨v1, v2, v3, v4, v5, rfl, o1, o2, o3, o4, o5⟩ := h.open5
 obtain ⟨As, cs, Ar, cr, Af, cf, Ad, cd, ev, h1, h2, h3⟩ := h
 injection ev with ev
 have ev := congrArg Array.toList ev
 simp only [List.cons.injEq, and_true] at ev
 obtain ⟨rfl, rfl, rfl, rfl, rfl⟩ := ev
 refine Fn.intro Try.func11 rfl rfl Try.ntmps11 rfl fun E F => ?_
 (repeat (first | ((with_reducible refine Tr.step rfl ?_); (first | (refine xaQ ?_) | ((with_reducible refine Knd.box ?_); (refine Exec.box rfl rfl (fun b => ?_))))) | (with_reducible first | apply Tr.next | apply Tr.seq | apply Tr.region | apply Tr.nil)))
 generalize b = b2
 refine Tr.cut (α := Option Addr × Option Addr) (fun y => ⟨69, [(1, .slice A l.length c), (4, .slice y.1 k.reqs.length k.reqs.length), (5, .slice y.2 k.sups.length k.sups.length)], [], M, ownS 3 1 y.1 k.reqs.length k.reqs.length (intV (givL k.reqs.length [])) :: ownS 3 1 y.2 k.sups.length k.sups.length (intV (takL k.sups.length [])) :: ([] ++ F)⟩) (fun _ => True) ?_ (fun y _ => ?_)
 ·(((apply Tr.draw); (kernel_rfl)); (refine tkQ 0 (hB := by exact fun _ h => h) (s := by exact sfQ) ?_); (refine tkQ 4 (s := by exact sfQ) ?_); (refine tkQ 1 (s := by exact slQ) ?_); (refine tkQ 5 (s := by exact slQ) ?_); (refine tkQ 2 (s := by exact snQ) ?_); (refine tkQ 6 (s := by exact snQ) ?_); (refine TrA.eff2 3 7 rfl rfl (by kernel_rfl) (by first | exact .inl rfl | exact .inr ⟨_, _, _, rfl, rfl, rfl⟩) (by first | exact .inl rfl | exact .inr ⟨_, _, _, rfl, rfl, rfl⟩) ?_ ?_))
  ·((((refine Knd.makeSlice ?_); (refine Exec.make rfl rfl (tysOk.get rfl) rfl (tysOk.get rfl) rfl rfl rfl (by omega) (by omega) (by first | omega | (simp; done) | (simp; omega)) (by omega) rfl (fun b => ?_)))); (refine ⟨(by first | exact Mem.le.refl _ | assumption), (by exact (Sub.mem (by repeat (first | exact Sub.refl | apply Sub.cons)))), ?_⟩))
   ((refine tkQ 8 (s := by exact Stab.assign rfl) ?_); (refine TrA.eff 7 rfl (by kernel_rfl) (by first | exact .inl rfl | exact .inr ⟨_, _, _, rfl, rfl, rfl⟩) ?_); (((refine Knd.makeSlice ?_); (refine Exec.make rfl rfl (tysOk.get rfl) rfl (tysOk.get rfl) rfl rfl rfl (by omega) (by omega) (by first | omega | (simp; done) | (simp; omega)) (by omega) rfl (fun b => ?_)))); (refine ⟨(by first | exact Mem.le.refl _ | assumption), (by exact (Sub.mem (by repeat (first | exact Sub.refl | apply Sub.cons)))), ?_⟩); (refine tkQ 9 (s := by exact Stab.assign rfl) ?_); (refine TrA.done (by kernel_rfl) ?_))
   rename_i bo
   simp only [Int.toNat_natCast, givL_nil]
   refine Tr.box_own (b := b) 1 k.sups.length (by repeat (first | exact Upd.here | apply Upd.there)) (by rw [intV_length, givL_len, Nat.mul_one]) (intV_one _) (by simp [maxLen]; omega) ?_
   refine Tr.box_own (b := bo) 1 k.reqs.length (by repeat (first | exact Upd.here | apply Upd.there)) (by rw [intV_length, givL_len, Nat.mul_one]) (intV_one _) (by simp [maxLen]; omega) ?_
   refine ftQ (r := ownS 3 1 (some ⟨bo, 0, none⟩) _ _ _) ?_
   refine gvQ (r := box b2 _ _) ?_
   exact Tr.land (some ⟨bo, 0, none⟩, some ⟨b, 0, none⟩) trivial hsQ
  ·((((refine Knd.makeSlice ?_); (refine Exec.make rfl rfl (tysOk.get rfl) rfl (tysOk.get rfl) rfl rfl rfl (by omega) (by omega) (by first | omega | (simp; done) | (simp; omega)) (by omega) rfl (fun b => ?_)))); (refine ⟨(by first | exact Mem.le.refl _ | assumption), (by exact (Sub.mem (by repeat (first | exact Sub.refl | apply Sub.cons)))), ?_⟩))
   ((refine TrA.eff 3 rfl (by kernel_rfl) (by first | exact .inl rfl | exact .inr ⟨_, _, _, rfl, rfl, rfl⟩) ?_); (((refine Knd.makeSlice ?_); (refine Exec.make rfl rfl (tysOk.get rfl) rfl (tysOk.get rfl) rfl rfl rfl (by omega) (by omega) (by first | omega | (simp; done) | (simp; omega)) (by omega) rfl (fun b => ?_)))); (refine ⟨(by first | exact Mem.le.refl _ | assumption), (by exact (Sub.mem (by repeat (first | exact Sub.refl | apply Sub.cons)))), ?_⟩); (refine tkQ 8 (s := by exact Stab.assign rfl) ?_); (refine tkQ 9 (s := by exact Stab.assign rfl) ?_); (refine TrA.done (by kernel_rfl) ?_))
   rename_i bo
   simp only [Int.toNat_natCast, givL_nil]
   refine Tr.box_own (b := b) 1 k.reqs.length (by repeat (first | exact Upd.here | apply Upd.there)) (by rw [intV_length, givL_len, Nat.mul_one]) (intV_one _) (by simp [maxLen]; omega) ?_
   refine Tr.box_own (b := bo) 1 k.sups.length (by repeat (first | exact Upd.here | apply Upd.there)) (by rw [intV_length, givL_len, Nat.mul_one]) (intV_one _) (by simp [maxLen]; omega) ?_
   refine gvQ (r := box b2 _ _) ?_
   exact Tr.land (some ⟨b, 0, none⟩, some ⟨bo, 0, none⟩) trivial hsQ
 obtain ⟨G, T⟩ := y
 dsimp only
 (refine rQ ?_)
 refine Tr.loop (α := Nat) (fun i => ⟨69, [(19, .int .i64 (i : Int)), (18, .int .i64 (l.length : Int)), (17, .slice A l.length c), (4, .slice G k.reqs.length k.reqs.length), (5, .slice T k.sups.length k.sups.length)], [], M, ownS 3 1 G k.reqs.length k.reqs.length (intV (givL k.reqs.length (l.take i))) :: ownS 3 1 T k.sups.length k.sups.length (intV (takL k.sups.length (l.take i))) :: ([] ++ F)⟩)
  (fun i => i ≤ l.length) (fun i => l.length - i) 0 (Nat.zero_le _) hsQ (fun i hi => ?_)
 by_cases hlt : i < l.length
 rotate_left
 ·have ei : l.length = i := by omega
  subst ei
  rw [List.take_length]
  refine pbQ (r := ownS 3 1 G _ _ _) (fun M2 hm2 ok2 => ?_)
  refine pbQ (r := ownS 3 1 T _ _ _) (fun M3 hm3 ok3 => ?_)
  have hI2 := (Ints.ofOwn (l := givL k.reqs.length l) ok2 (givL_len _ _).symm (by omega)).mono RI.mono hm3
  have hI3 := Ints.ofOwn (l := takL k.sups.length l) ok3 (takL_len _ _).symm (by omega)
  rw [givL_len] at hI2
  rw [takL_len] at hI3
  have hm03 := hm2.trans hm3
  (refine rQ ?_)
  (refine dnQ (hL := by exact ⟨[], rfl⟩) ⟨rfl, ?_⟩)
  exact ⟨_, _, _, _, rfl, hI2, hI3⟩
 obtain ⟨z, hz⟩ := get_of_lt hlt
 have hzm := List.mem_of_getElem? hz
 obtain ⟨hA, ch, hat, rfl⟩ := hl.elem hz
 have hoz := hok z hzm
 have haz := ham z hzm
 have htk := hp_take hz
 have hsm := ship_small (l := l.take i) (fun y hy => ham y (List.mem_of_mem_take hy))
 have htl : (l.take i).length ≤ 1000 := by rw [List.length_take]; omega
 by_cases hk : z.kind = 3
 rotate_left
 ·rw [← givL_no (n := k.reqs.length) hk, ← takL_no (n := k.sups.length) hk, ← htk]
  (repeat (first | ((with_reducible refine Tr.step rfl ?_); (first | (refine xmQ ?_) | ((with_reducible refine Knd.load ?_); (first | (refine xlQ ?_) | (refine Exec.stab rfl (Stab.loadMA rfl (tysOk.get rfl) rfl (by assumption) (by first | rfl | assumption)) rfl ?_))) | (refine xfQ ?_) | ((with_reducible refine Knd.binOp ?_); (first | (refine xdQ ?_) | (refine xiQ ?_))) | ((with_reducible refine Knd.store ?_); (refine Exec.storeW rfl rfl (tysOk.get rfl) (by repeat (first | exact Upd.here | apply Upd.there)) rfl rfl (by repeat (first | (with_reducible assumption) | exact AllOne.nil | exact AllOne.bytes _ | refine AllOne.cons (by first | rfl | assumption) ?_)) ?_)) | ((with_reducible refine Knd.alloc ?_); (refine Exec.alloc (tysOk.get rfl) rfl rfl (fun b => ?_))) | (refine xxQ ?_))) | (with_reducible first | apply Tr.next | apply Tr.seq | apply Tr.region | apply Tr.nil | apply Tr.skip | apply Tr.block | apply Tr.exit | apply Tr.then_exit) | ((with_reducible refine Tr.in_exit ?_ ?_); (exact rfl)) | (refine Tr.cond_t rfl (by first | (with_reducible assumption) | (with_reducible rfl) | (with_reducible exact (not_not_intro rfl)) | omega) ?_)))
  refine gvQ (r := box _ 59 _) ?_
  exact Tr.again (i + 1) (by omega) (by omega) hsQ
 have haz := haz hk
 obtain ⟨⟨s1, s2⟩, r0⟩ := hoz
 have r1 : 0 ≤ z.req ∧ z.req < (k.reqs.length : Int) := by rcases r0 with r | r | r <;> omega
 obtain ⟨kd, sup, req, day, amt⟩ := z
 dsimp only at hk s1 s2 r1 haz hat htk
 subst hk
 obtain ⟨p, rfl⟩ : ∃ p : Nat, sup = (p : Int) := ⟨sup.toNat, by omega⟩
 obtain ⟨q, rfl⟩ : ∃ q : Nat, req = (q : Int) := ⟨req.toNat, by omega⟩
 have hq : q < k.reqs.length := by omega
 have hp : p < k.sups.length := by omega
 have hgs := givL_yes (n := k.reqs.length) (l := l.take i) (z := ⟨3, (p : Int), (q : Int), day, amt⟩) rfl rfl hq
 have hts := takL_yes (n := k.sups.length) (l := l.take i) (z := ⟨3, (p : Int), (q : Int), day, amt⟩) rfl rfl hp
 rw [← htk] at hgs hts
 dsimp only at hgs hts
 have hg := givL_get (l.take i) hq
 have ht := takL_get (l.take i) hp
 have b1 := (hsm q).1
 have b2' := (hsm p).2
 have hnv : (intV (givL k.reqs.length (l.take i)))[(q : Int).toNat]? = some (.int .i64 (shipN (l.take i) q)) := by rw [Int.toNat_natCast]; exact intV_get hg
 have hnw : (intV (takL k.sups.length (l.take i)))[(p : Int).toNat]? = some (.int .i64 (shipA (l.take i) p)) := by rw [Int.toNat_natCast]; exact intV_get ht
 have hla : (intV (givL k.reqs.length (l.take i))).length = k.reqs.length := by rw [intV_length, givL_len]
 have hlb : (intV (takL k.sups.length (l.take i))).length = k.sups.length := by rw [intV_length, takL_len]
 refine Tr.own_some G (e := 3) (sz := 1) (m := k.reqs.length) (c := k.reqs.length) (xs := intV (givL k.reqs.length (l.take i))) (by repeat (first | exact Has.here | apply Has.there)) (by omega) (fun hGs => ?_)
 refine Tr.own_some T (e := 3) (sz := 1) (m := k.sups.length) (c := k.sups.length) (xs := intV (takL k.sups.length (l.take i))) (by repeat (first | exact Has.here | apply Has.there)) (by omega) (fun hTs => ?_)
 (repeat (first | ((with_reducible refine Tr.step rfl ?_); (first | (refine xmQ ?_) | ((with_reducible refine Knd.load ?_); (first | (refine xlQ ?_) | (refine Exec.stab rfl (Stab.loadMA rfl (tysOk.get rfl) rfl (by assumption) (by first | rfl | assumption)) rfl ?_))) | (refine xfQ ?_) | (refine xiQ ?_) | ((with_reducible refine Knd.pick ?_); (refine Exec.stab rfl (Stab.pick_fd rfl (by first | (with_reducible assumption) | (with_reducible rfl) | (with_reducible exact (not_not_intro rfl)) | omega) rfl) rfl ?_)) | ((with_reducible refine Knd.store ?_); (refine Exec.storeW rfl rfl (tysOk.get rfl) (by repeat (first | exact Upd.here | apply Upd.there)) rfl rfl (by repeat (first | (with_reducible assumption) | exact AllOne.nil | exact AllOne.bytes _ | refine AllOne.cons (by first | rfl | assumption) ?_)) ?_)) | ((with_reducible refine Knd.alloc ?_); (refine Exec.alloc (tysOk.get rfl) rfl rfl (fun b => ?_))) | (refine xxQ ?_))) | (with_reducible first | apply Tr.next | apply Tr.seq | apply Tr.region | apply Tr.nil) | ((refine Tr.guard_y' rfl rfl rfl (by first | (with_reducible assumption) | (with_reducible rfl) | (with_reducible exact (not_not_intro rfl)) | omega) ?_); (first | (refine xmQ ?_) | (refine xlQ ?_) | (refine xfQ ?_) | (refine xnQ ?_) | (refine xiQ ?_))) | (with_reducible first | apply Tr.skip | apply Tr.block) | (refine Tr.cond_t rfl (by first | (with_reducible assumption) | (with_reducible rfl) | (with_reducible exact (not_not_intro rfl)) | omega) ?_) | (refine Tr.cond_f rfl (by first | (with_reducible assumption) | (with_reducible rfl) | (with_reducible exact (not_not_intro rfl)) | omega) ?_)))
 (((apply Tr.draw); (kernel_rfl)); (refine tkQ 0 (hB := by exact fun _ h => h) (s := by exact Stab.move rfl) ?_); (refine tkQ 1 (s := by exact sfQ) ?_); (refine tkQ 5 (s := by exact sfQ) ?_); (refine tkQ 2 (s := by exact slQ) ?_); (refine tkQ 6 (s := by exact slQ) ?_); (refine tkQ 3 (s := by exact sxQ) ?_); (refine tkQ 4 (s := by exact Stab.loadO rfl (tysOk.get rfl) rfl (by repeat (first | exact Has.here | apply Has.there)) (by assumption)) ?_); (refine tkQ 7 (s := by exact Stab.addi rfl rfl (by omega)) ?_); (refine tkQ 8 (s := by exact sxQ) ?_); (refine TrA.effD 9 rfl (by kernel_rfl) (by kernel_rfl) (by first | exact .inl rfl | exact .inr ⟨_, _, _, rfl, rfl, rfl⟩) ?_); (((refine Knd.store ?_); ((refine Exec.storeO rfl rfl (tysOk.get rfl) rfl (by first | rfl | assumption) (by repeat (first | exact Upd.here | apply Upd.there)) (by omega) ?_)))); (refine ⟨_, fun _ h => h, ?_⟩); (refine TrA.done (by kernel_rfl) ?_))
 rw [Int.toNat_natCast q, intV_set, hgs]
 (repeat ((with_reducible refine Tr.next ?_)))
 (((apply Tr.draw); (kernel_rfl)); (refine tkQ 0 (hB := by exact fun _ h => h) (s := by exact Stab.move rfl) ?_); (refine tkQ 1 (s := by exact sfQ) ?_); (refine tkQ 5 (s := by exact sfQ) ?_); (refine tkQ 2 (s := by exact slQ) ?_); (refine tkQ 6 (s := by exact slQ) ?_); (refine tkQ 3 (s := by exact sxQ) ?_); (refine tkQ 4 (s := by exact Stab.loadO rfl (tysOk.get rfl) rfl (by repeat (first | exact Has.here | apply Has.there)) (by assumption)) ?_); (refine tkQ 7 (s := by exact Stab.addi rfl rfl (by omega)) ?_); (refine tkQ 8 (s := by exact sxQ) ?_); (refine TrA.effD 9 rfl (by kernel_rfl) (by kernel_rfl) (by first | exact .inl rfl | exact .inr ⟨_, _, _, rfl, rfl, rfl⟩) ?_); (((refine Knd.store ?_); ((refine Exec.storeO rfl rfl (tysOk.get rfl) rfl (by first | rfl | assumption) (by repeat (first | exact Upd.here | apply Upd.there)) (by omega) ?_)))); (refine ⟨_, fun _ h => h, ?_⟩); (refine TrA.done (by kernel_rfl) ?_))
 rw [Int.toNat_natCast p, intV_set, hts]
 (refine rQ ?_)
 refine gvQ (r := box _ 59 _) ?_
 exact Tr.again (i + 1) (by omega) (by omega) hsQ
end Go.Proofs.Ytcadnjmcmegpjaa

/-
 Matching, plain: sets of bits and sets of requests; what the reference computes of them.
 Conditions: none.
-/
namespace Go.Proofs.Ytcadnjmcmegpjaa
open Go Bf
def bitsOf (S : Nat → Bool) : Nat → Nat
 | 0 => 0
 | m + 1 => bitsOf S m + if S m then 2 ^ m else 0
theorem bitsOf_lt (S : Nat → Bool) : ∀ m, bitsOf S m < 2 ^ m
 | 0 => by simp [bitsOf]
 | m + 1 => by
  have := bitsOf_lt S m
  rw [bitsOf, Nat.pow_succ]
  split <;> omega
theorem bitsOf_bit (S : Nat → Bool) : ∀ m i, (bitsOf S m).testBit i = (decide (i < m) && S i)
 | 0, i => by simp [bitsOf]
 | m + 1, i => by
  have hl := bitsOf_lt S m
  have ih := bitsOf_bit S m i
  have e : bitsOf S (m + 1) = 2 ^ m * (if S m then 1 else 0) + bitsOf S m := by
   rw [bitsOf]; split <;> simp <;> omega
  rw [e, Nat.testBit_two_pow_mul_add _ hl]
  by_cases h : i < m
  ·rw [if_pos h, ih]
   have h2 : i < m + 1 := by omega
   simp [h, h2]
  ·rw [if_neg h]
   by_cases h3 : i = m
   ·subst h3
    simp
    cases S i <;> simp
   ·have h4 : ¬ i < m + 1 := by omega
    simp only [h4, decide_false, Bool.false_and]
    obtain ⟨d, hd⟩ : ∃ d, i - m = d + 1 := ⟨i - m - 1, by omega⟩
    rw [hd]
    cases S m <;> simp [Nat.testBit_succ]
theorem touch_bits {fits : List (List Bool)} {sup need : List Int} (hv : Vld fits sup need) {k : Nat} (hk : k < sup.length) (s : Nat) : touchB (fits.getD k []) s = touches (pbOf fits sup need) (fun b => s.testBit b) k := by
 have hl := hv.lf
 obtain ⟨row, hr⟩ := get_of_lt (xs := fits) (i := k) (by omega)
 have hrl := hv.rows row (List.mem_of_getElem? hr)
 unfold touchB touches
 rw [getD_of (d := []) hr, hrl]
 show _ = (List.range need.length).any fun b => s.testBit b && (fits.getD k []).getD b false
 rw [getD_of (d := []) hr]
theorem lackB_eq {fits : List (List Bool)} {sup need : List Int} (hv : Vld fits sup need) (s : Nat) : lackB fits sup need s = lackOf (pbOf fits sup need) (fun b => s.testBit b) := by
 unfold lackB lackOf
 congr 1
 refine sumN_congr fun k hk => ?_
 rw [touch_bits hv hk]
 rfl
theorem lackOf_congr {p : Pb} {D D' : Nat → Bool} (h : ∀ b, b < p.m → D b = D' b) : lackOf p D = lackOf p D' := by
 unfold lackOf
 congr 1
 ·exact sumN_congr fun b hb => by rw [h b hb]
 ·refine sumN_congr fun k _ => ?_
  have : touches p D k = touches p D' k := by
   rw [Bool.eq_iff_iff, touches_iff, touches_iff]
   exact ⟨fun ⟨b, h1, h2, h3⟩ => ⟨b, h1, by rw [← h b h1]; exact h2, h3⟩, fun ⟨b, h1, h2, h3⟩ => ⟨b, h1, by rw [h b h1]; exact h2, h3⟩⟩
  rw [this]
theorem lackOf_bits {fits : List (List Bool)} {sup need : List Int} (hv : Vld fits sup need) (D : Nat → Bool) : lackOf (pbOf fits sup need) D = lackB fits sup need (bitsOf D need.length) := by
 rw [lackB_eq hv]
 refine lackOf_congr fun b hb => ?_
 rw [bitsOf_bit]
 have : b < need.length := hb
 simp [this]
theorem MaxLack.isLack {fits : List (List Bool)} {sup need : List Int} (hv : Vld fits sup need) {v : Int} (h : MaxLack fits sup need (2 ^ need.length) v) : IsLack (pbOf fits sup need) v := by
 refine ⟨?_, fun D => ?_⟩
 ·rcases h.is with h | ⟨s, _, _, h⟩
  ·exact ⟨fun _ => false, by rw [lackOf_none, h]⟩
  ·exact ⟨_, by rw [← lackB_eq hv, h]⟩
 ·rw [lackOf_bits hv]
  by_cases h0 : bitsOf D need.length = 0
  ·rw [h0, lackB_eq hv]
   have : lackOf (pbOf fits sup need) (fun b => (0 : Nat).testBit b) = 0 := by
    rw [← lackOf_none (pbOf fits sup need)]
    exact lackOf_congr fun b _ => by simp
   rw [this]; exact h.nn
  ·exact h.le _ (by omega) (bitsOf_lt _ _)
theorem lackS_le {fits : List (List Bool)} {sup need : List Int} (hv : Vld fits sup need) (S D : Nat → Bool) : lackOf (pbS fits sup need S) D ≤ lackOf (pbOf fits sup need) (fun b => D b && S b) := by
 unfold lackOf
 have h1 : (sumN (pbS fits sup need S).m fun b => if D b = true then (pbS fits sup need S).need b else 0) = sumN (pbOf fits sup need).m fun b => if (D b && S b) = true then (pbOf fits sup need).need b else 0 := sumN_congr fun b _ => by
  show (if D b = true then (if S b = true then need.getD b 0 else 0) else 0) = if (D b && S b) = true then need.getD b 0 else 0
  cases D b <;> cases S b <;> simp
 have h2 : (sumN (pbOf fits sup need).n fun k => if touches (pbOf fits sup need) (fun b => D b && S b) k = true then (pbOf fits sup need).sup k else 0) ≤ sumN (pbS fits sup need S).n fun k => if touches (pbS fits sup need S) D k = true then (pbS fits sup need S).sup k else 0 := sumN_le fun k hk => by
  by_cases ht : touches (pbOf fits sup need) (fun b => D b && S b) k = true
  ·have : touches (pbS fits sup need S) D k = true := by
    obtain ⟨b, g1, g2, g3⟩ := touches_iff.1 ht
    exact touches_iff.2 ⟨b, g1, by simp at g2; exact g2.1, g3⟩
   rw [if_pos ht, if_pos this]
   exact Int.le_refl _
  ·rw [if_neg ht]
   split
   ·exact (getD_rng hv.rs k).1
   ·exact Int.le_refl _
 exact Int.sub_le_sub (Int.le_of_eq h1) h2
theorem lackS_eq {fits : List (List Bool)} {sup need : List Int} (S D : Nat → Bool) (h : ∀ b, b < need.length → D b = true → S b = true) : lackOf (pbS fits sup need S) D = lackOf (pbOf fits sup need) D := by
 unfold lackOf
 congr 1
 refine sumN_congr fun b hb => ?_
 show (if D b = true then (if S b = true then need.getD b 0 else 0) else 0) = if D b = true then need.getD b 0 else 0
 by_cases hd : D b = true
 ·rw [if_pos hd, if_pos hd, if_pos (h b hb hd)]
 ·rw [if_neg hd, if_neg hd]
theorem feasS_iff {fits : List (List Bool)} {sup need : List Int} (hv : Vld fits sup need) (S : Nat → Bool) : Feas (pbS fits sup need S) ↔ ∀ D, lackOf (pbS fits sup need S) D ≤ 0 := feas_iff (fun k _ => (getD_rng hv.rs k).1) (fun b _ => by
 show 0 ≤ if S b = true then need.getD b 0 else 0
 split
 ·exact (getD_rng hv.rn b).1
 ·exact Int.le_refl _)
theorem poss_iff {fits : List (List Bool)} {sup need : List Int} (hv : Vld fits sup need) {set : Nat} (_ : set < 2 ^ need.length) : Poss fits sup need set ↔ Feas (pbS fits sup need fun b => set.testBit b) := by
 rw [feasS_iff hv]
 refine ⟨fun h D => ?_, fun h s h1 h2 h3 => ?_⟩
 ·refine Int.le_trans (lackS_le hv _ D) ?_
  rw [lackOf_bits hv]
  by_cases h0 : bitsOf (fun b => D b && set.testBit b) need.length = 0
  ·rw [h0, lackB_eq hv]
   have : lackOf (pbOf fits sup need) (fun b => (0 : Nat).testBit b) = 0 := by
    rw [← lackOf_none (pbOf fits sup need)]
    exact lackOf_congr fun b _ => by simp
   rw [this]; exact Int.le_refl _
  ·have hsub : bitsOf (fun b => D b && set.testBit b) need.length &&& set = bitsOf (fun b => D b && set.testBit b) need.length := by
    apply Nat.eq_of_testBit_eq
    intro i
    rw [Nat.testBit_and, bitsOf_bit]
    cases D i <;> cases set.testBit i <;> simp
   refine h _ (by omega) ?_ hsub
   rw [← hsub]
   exact Nat.and_le_right
 ·rw [lackB_eq hv, ← lackS_eq (S := fun b => set.testBit b)]
  ·exact h _
  ·intro b _ hb
   rw [← h3, Nat.testBit_and] at hb
   simp at hb
   exact hb.2
theorem feas_poss {fits : List (List Bool)} {sup need : List Int} (hv : Vld fits sup need) : Feas (pbOf fits sup need) ↔ Poss fits sup need (2 ^ need.length - 1) := by
 rw [poss_iff hv (by have := Nat.two_pow_pos need.length; omega), feasS_iff hv, feas_iff hv.sup0 hv.need0]
 have h : ∀ D, lackOf (pbS fits sup need fun b => (2 ^ need.length - 1).testBit b) D = lackOf (pbOf fits sup need) D := fun D => lackS_eq _ _ fun b hb _ => by rw [Nat.testBit_two_pow_sub_one]; simp [hb]
 simp only [h]
end Go.Proofs.Ytcadnjmcmegpjaa

/-
 Matching, plain: how much of a supply a request can get; amounts one after the other.
 Conditions: none.
-/
namespace Go.Proofs.Ytcadnjmcmegpjaa
open Go Bf
theorem Flow.congr {p : Pb} {x y : Nat → Nat → Int} {lack : Nat → Int} (h : Bf.Flow p x lack) (e : ∀ k, k < p.n → ∀ b, b ≤ p.m → y k b = x k b) : Bf.Flow p y lack := by
 refine ⟨⟨fun k hk b hb => by rw [e k hk b hb]; exact h.nn k hk b hb, fun k hk b hb h0 => h.ok k hk b hb (by rw [← e k hk b (by omega)]; exact h0), fun k hk => ?_⟩, fun b hb => ?_, h.lk⟩
 ·rw [← h.row k hk]
  exact sumN_congr fun b hb => e k hk b (by omega)
 ·rw [← h.col b hb]
  congr 1
  exact sumN_congr fun k hk => e k hk b (by omega)
def afterP (q : Pb) (s r : Nat) (v : Int) : Pb := ⟨q.n, q.m, fun k b => q.fits k b && !(decide (k = s) && decide (b = r)), fun k => if k = s then q.sup k - v else q.sup k, fun b => if b = r then q.need b - v else q.need b⟩
def addAt (c : Nat → Nat → Int) (s r : Nat) (v : Int) (k b : Nat) : Int := if k = s ∧ b = r then c k b + v else c k b
theorem sumN_at {n s : Nat} {f g : Nat → Int} {v : Int} (hs : s < n) (h1 : g s = f s + v) (h2 : ∀ i, i ≠ s → g i = f i) : sumN n g = sumN n f + v := by
 rw [sumN_upd (f := f) (g := g) hs h2, h1]; omega
theorem flow_add {q : Pb} {s r : Nat} {v : Int} {c : Nat → Nat → Int} (hs : s < q.n) (hr : r < q.m) (hf : q.fits s r = true) (hv : 0 ≤ v) (h : Bf.Flow (afterP q s r v) c fun _ => 0) : Bf.Flow q (addAt c s r v) fun _ => 0 := by
 have hz : c s r = 0 := by
  by_cases e : c s r = 0
  ·exact e
  ·have := h.ok s hs r hr e
   simp [afterP] at this
 refine ⟨⟨fun k hk b hb => ?_, fun k hk b hb h0 => ?_, fun k hk => ?_⟩, fun b hb => ?_, fun _ _ => Int.le_refl _⟩
 ·have := h.nn k hk b hb
  unfold addAt
  split <;> omega
 ·by_cases e : k = s ∧ b = r
  ·obtain ⟨rfl, rfl⟩ := e; exact hf
  ·unfold addAt at h0
   rw [if_neg e] at h0
   have := h.ok k hk b hb h0
   simp only [afterP, Bool.and_eq_true] at this
   exact this.1
 ·have h1 : sumN (q.m + 1) (c k) = if k = s then q.sup k - v else q.sup k := h.row k hk
  by_cases e : k = s
  ·subst e
   rw [if_pos rfl] at h1
   rw [sumN_at (n := q.m + 1) (s := r) (f := c k) (v := v) (by omega) (by simp [addAt]) (fun i hi => by simp [addAt, hi]), h1]
   omega
  ·rw [if_neg e] at h1
   rw [← h1]
   exact sumN_congr fun b _ => by simp [addAt, e]
 ·have h1 : (0 : Int) + sumN q.n (fun k => c k b) = if b = r then q.need b - v else q.need b := h.col b hb
  show (0 : Int) + sumN q.n (fun k => addAt c s r v k b) = q.need b
  by_cases e : b = r
  ·subst e
   rw [if_pos rfl] at h1
   rw [sumN_at (n := q.n) (s := s) (f := fun k => c k b) (v := v) hs (by simp [addAt]) (fun i hi => by simp [addAt, hi])]
   omega
  ·rw [if_neg e] at h1
   rw [← h1]
   congr 1
   exact sumN_congr fun k _ => by simp [addAt, e]
theorem flow_sub {q : Pb} {s r : Nat} {c : Nat → Nat → Int} (hs : s < q.n) (hr : r < q.m) (h : Bf.Flow q c fun _ => 0) : Bf.Flow (afterP q s r (c s r)) (addAt c s r (-(c s r))) fun _ => 0 := by
 have hnn := h.nn s hs r (by omega)
 refine ⟨⟨fun k hk b hb => ?_, fun k hk b hb h0 => ?_, fun k hk => ?_⟩, fun b hb => ?_, fun _ _ => Int.le_refl _⟩
 ·have := h.nn k hk b hb
  unfold addAt
  split
  ·rename_i e; obtain ⟨rfl, rfl⟩ := e; omega
  ·exact this
 ·unfold addAt at h0
  by_cases e : k = s ∧ b = r
  ·rw [if_pos e] at h0
   obtain ⟨rfl, rfl⟩ := e
   omega
  ·rw [if_neg e] at h0
   have := h.ok k hk b hb h0
   show (q.fits k b && !(decide (k = s) && decide (b = r))) = true
   rw [this]
   simp
   omega
 ·have h1 : sumN (q.m + 1) (c k) = q.sup k := h.row k hk
  show sumN (q.m + 1) (addAt c s r (-(c s r)) k) = if k = s then q.sup k - c s r else q.sup k
  by_cases e : k = s
  ·subst e
   rw [if_pos rfl, sumN_at (n := q.m + 1) (s := r) (f := c k) (v := -(c k r)) (by omega) (by simp [addAt]) (fun i hi => by simp [addAt, hi]), h1]
   omega
  ·rw [if_neg e, ← h1]
   exact sumN_congr fun b _ => by simp [addAt, e]
 ·have h1 : (0 : Int) + sumN q.n (fun k => c k b) = q.need b := h.col b hb
  show (0 : Int) + sumN q.n (fun k => addAt c s r (-(c s r)) k b) = if b = r then q.need b - c s r else q.need b
  by_cases e : b = r
  ·subst e
   rw [if_pos rfl, sumN_at (n := q.n) (s := s) (f := fun k => c k b) (v := -(c s b)) hs (by simp [addAt]) (fun i hi => by simp [addAt, hi])]
   omega
  ·rw [if_neg e, ← h1]
   congr 1
   exact sumN_congr fun k _ => by simp [addAt, e]
theorem flow_le_lack {q : Pb} {c : Nat → Nat → Int} (h : Bf.Flow q c fun _ => 0) {s r : Nat} (hs : s < q.n) (hr : r < q.m) {D : Nat → Bool} (hD : D r = false) (ht : touches q D s = true) : c s r ≤ - lackOf q D := by
 have e := h.lackOf_eq D
 have z : (sumN q.m fun b => if D b = true then (0 : Int) else 0) = 0 := sumN_zero fun _ _ => by split <;> rfl
 rw [z, Int.zero_add] at e
 let f := fun k => (sumN q.m fun b => if D b = true then c k b else 0) - if touches q D k = true then q.sup k else 0
 have hf : ∀ k, k < q.n → f k ≤ 0 := fun k hk => by
  have := h.part_le D hk
  show (sumN q.m fun b => if D b = true then c k b else 0) - (if touches q D k = true then q.sup k else 0) ≤ 0
  omega
 have h1 := sumN_le_of_mem (f := fun k => - f k) (n := q.n) (k := s) (fun k hk => by have := hf k hk; show 0 ≤ - f k; omega) hs
 have h2 : (sumN q.n fun k => - f k) = - sumN q.n f := by
  have := sumN_sub (fun _ => 0) f q.n
  rw [sumN_zero (f := fun _ => 0) (fun _ _ => rfl)] at this
  simpa using this
 have h3 : sumN q.n f = lackOf q D := e.symm
 have h4 : (sumN q.m fun b => if D b = true then c s b else 0) + c s r ≤ q.sup s := by
  rw [← h.row s hs]
  have h5 : sumN q.m (fun b => if D b = true then c s b else 0) + c s r = sumN q.m (fun b => if b = r then c s b else if D b = true then c s b else 0) := by
   rw [sumN_at (n := q.m) (s := r) (f := fun b => if D b = true then c s b else 0) (g := fun b => if b = r then c s b else if D b = true then c s b else 0) (v := c s r) hr (by simp [hD]) (fun i hi => by simp [hi])]
  rw [h5]
  have h6 : sumN q.m (fun b => if b = r then c s b else if D b = true then c s b else 0) ≤ sumN q.m (c s) := sumN_le fun b hb => by
   have := h.nn s hs b (by omega)
   split
   ·exact Int.le_refl _
   ·split <;> omega
  have h7 := h.nn s hs q.m (Nat.le_refl _)
  have h8 : sumN (q.m + 1) (c s) = sumN q.m (c s) + c s q.m := rfl
  omega
 have h9 : f s ≤ - c s r := by
  show (sumN q.m fun b => if D b = true then c s b else 0) - (if touches q D s = true then q.sup s else 0) ≤ - c s r
  rw [if_pos ht]
  omega
 have h1 : - f s ≤ sumN q.n fun k => - f k := h1
 omega
def needN (q : Pb) (D : Nat → Bool) : Int := sumN q.m fun b => if D b = true then q.need b else 0
def covN (q : Pb) (s : Nat) (D : Nat → Bool) : Int := sumN q.n fun k => if k = s then 0 else if touches q D k = true then q.sup k else 0
theorem lack_cov (q : Pb) {s : Nat} (hs : s < q.n) (D : Nat → Bool) : lackOf q D = needN q D - covN q s D - if touches q D s = true then q.sup s else 0 := by
 unfold lackOf needN covN
 rw [sumN_at (n := q.n) (s := s) (f := fun k => if k = s then 0 else if touches q D k = true then q.sup k else 0) (g := fun k => if touches q D k = true then q.sup k else 0) (v := if touches q D s = true then q.sup s else 0) hs (by simp) (fun i hi => by simp [hi])]
 omega
theorem need_split (q : Pb) (D E : Nat → Bool) : needN q D + needN q E = needN q (fun b => D b || E b) + needN q (fun b => D b && E b) := by
 unfold needN
 rw [← sumN_add, ← sumN_add]
 exact sumN_congr fun b _ => by cases hD : D b <;> cases hE : E b <;> simp [hD, hE]
theorem touches_or (q : Pb) (D E : Nat → Bool) (k : Nat) : touches q (fun b => D b || E b) k = (touches q D k || touches q E k) := by
 rw [Bool.eq_iff_iff, Bool.or_eq_true, touches_iff, touches_iff, touches_iff]
 constructor
 ·rintro ⟨b, h1, h2, h3⟩
  simp at h2
  rcases h2 with h2 | h2
  ·exact .inl ⟨b, h1, h2, h3⟩
  ·exact .inr ⟨b, h1, h2, h3⟩
 ·rintro (⟨b, h1, h2, h3⟩ | ⟨b, h1, h2, h3⟩)
  ·exact ⟨b, h1, by simp [h2], h3⟩
  ·exact ⟨b, h1, by simp [h2], h3⟩
theorem touches_and (q : Pb) (D E : Nat → Bool) (k : Nat) (h : touches q (fun b => D b && E b) k = true) : touches q D k = true ∧ touches q E k = true := by
 obtain ⟨b, h1, h2, h3⟩ := touches_iff.1 h
 simp at h2
 exact ⟨touches_iff.2 ⟨b, h1, h2.1, h3⟩, touches_iff.2 ⟨b, h1, h2.2, h3⟩⟩
theorem cov_split (q : Pb) (s : Nat) (hp : ∀ k, k < q.n → 0 ≤ q.sup k) (D E : Nat → Bool) : covN q s (fun b => D b || E b) + covN q s (fun b => D b && E b) ≤ covN q s D + covN q s E := by
 unfold covN
 rw [← sumN_add, ← sumN_add]
 refine sumN_le fun k hk => ?_
 have h0 := hp k hk
 by_cases e : k = s
 ·simp [e]
 ·simp only [if_neg e]
  rw [touches_or]
  have h1 := touches_and q D E k
  cases h2 : touches q (fun b => D b && E b) k
  ·cases touches q D k <;> cases touches q E k <;> simp <;> omega
  ·obtain ⟨h3, h4⟩ := h1 h2
   rw [h3, h4]
   simp
theorem cov_mono (q : Pb) (s : Nat) (hp : ∀ k, k < q.n → 0 ≤ q.sup k) {D E : Nat → Bool} (h : ∀ b, D b = true → E b = true) : covN q s D ≤ covN q s E := by
 refine sumN_le fun k hk => ?_
 have h0 := hp k hk
 by_cases e : k = s
 ·simp [e]
 ·simp only [if_neg e]
  cases h1 : touches q D k
  ·simp
   split <;> omega
  ·obtain ⟨b, g1, g2, g3⟩ := touches_iff.1 h1
   have : touches q E k = true := touches_iff.2 ⟨b, g1, h b g2, g3⟩
   simp [this]
theorem room_feas {q : Pb} (hp : ∀ k, k < q.n → 0 ≤ q.sup k) (hn : ∀ b, b < q.m → 0 ≤ q.need b) (hf : Feas q) {s r : Nat} (hs : s < q.n) (hr : r < q.m) {v : Int} (l1 : v ≤ q.sup s) (l2 : v ≤ q.need r)
  (le : ∀ D : Nat → Bool, D r = false → touches q D s = true → v ≤ - lackOf q D) (is : v = q.sup s ∨ v = q.need r ∨ ∃ E : Nat → Bool, E r = false ∧ touches q E s = true ∧ v = - lackOf q E) : 0 ≤ v ∧ Feas (afterP q s r v) := by
 have hl := (feas_iff hp hn).1 hf
 have h0 : 0 ≤ v := by
  rcases is with h | h | ⟨E, -, -, h⟩
  ·rw [h]; exact hp s hs
  ·rw [h]; exact hn r hr
  ·have := hl E; omega
 refine ⟨h0, hall (fun k hk => ?_) (fun b hb => ?_) fun D => ?_⟩
 ·show 0 ≤ if k = s then q.sup k - v else q.sup k
  have := hp k hk
  split
  ·rename_i e; subst e; omega
  ·exact this
 ·show 0 ≤ if b = r then q.need b - v else q.need b
  have := hn b hb
  split
  ·rename_i e; subst e; omega
  ·exact this
 -- the lack after
 have hneed : needN (afterP q s r v) D = needN q D - if D r = true then v else 0 := by
  unfold needN
  show (sumN q.m fun b => if D b = true then (if b = r then q.need b - v else q.need b) else 0) = _
  cases hD : D r
  ·simp only [Bool.false_eq_true, if_false, Int.sub_zero]
   exact sumN_congr fun b _ => by
    by_cases e : b = r
    ·subst e; simp [hD]
    ·simp [e]
  ·rw [sumN_at (n := q.m) (s := r) (f := fun b => if D b = true then q.need b else 0) (v := -v) hr (by simp [hD]; omega) (fun i hi => by simp [hi])]
   simp
   omega
 have htk : ∀ k, k ≠ s → touches (afterP q s r v) D k = touches q D k := fun k hk => by
  rw [Bool.eq_iff_iff, touches_iff, touches_iff]
  simp [afterP, hk]
 have hcov : covN (afterP q s r v) s D = covN q s D := by
  refine sumN_congr fun k _ => ?_
  by_cases e : k = s
  ·simp [e]
  ·simp only [if_neg e]
   rw [htk k e]
   show (if touches q D k = true then (if k = s then q.sup k - v else q.sup k) else 0) = _
   rw [if_neg e]
 have hts : touches (afterP q s r v) D s = true ↔ ∃ b, b < q.m ∧ D b = true ∧ b ≠ r ∧ q.fits s b = true := by
  rw [touches_iff]
  simp only [afterP, Bool.and_eq_true, Bool.not_eq_true', decide_true, Bool.true_and, decide_eq_false_iff_not]
  exact ⟨fun ⟨b, h1, h2, h3, h4⟩ => ⟨b, h1, h2, h4, h3⟩, fun ⟨b, h1, h2, h3, h4⟩ => ⟨b, h1, h2, h4, h3⟩⟩
 have hsup : (afterP q s r v).sup s = q.sup s - v := by simp [afterP]
 rw [lack_cov (afterP q s r v) (s := s) hs, hneed, hcov, hsup]
 have hD := hl D
 rw [lack_cov q hs D] at hD
 by_cases ht : touches (afterP q s r v) D s = true
 ·rw [if_pos ht]
  obtain ⟨b, b1, b2, b3, b4⟩ := hts.1 ht
  have htq : touches q D s = true := touches_iff.2 ⟨b, b1, b2, b4⟩
  rw [if_pos htq] at hD
  cases hDr : D r
  ·have := le D hDr htq
   rw [lack_cov q hs D, if_pos htq] at this
   simp
   omega
  ·simp
   omega
 ·rw [if_neg ht]
  have hno : ∀ b, b < q.m → D b = true → b ≠ r → q.fits s b = false := fun b h1 h2 h3 => by
   cases h : q.fits s b
   ·rfl
   ·exact absurd (hts.2 ⟨b, h1, h2, h3, h⟩) ht
  cases hDr : D r
  ·have htq : touches q D s = false := by
    cases h : touches q D s
    ·rfl
    ·obtain ⟨b, h1, h2, h3⟩ := touches_iff.1 h
     rw [hno b h1 h2 (fun e => by rw [e, hDr] at h2; cases h2)] at h3
     cases h3
   rw [htq] at hD
   simp at hD ⊢
   omega
  ·simp only [if_true, Int.sub_zero]
   rcases is with h | h | ⟨E, e1, e2, h⟩
   ·have : (if touches q D s = true then q.sup s else 0) ≤ q.sup s := by
     have := hp s hs
     split <;> omega
    omega
   ·have h1 := hl fun b => D b && !decide (b = r)
    have h2 : touches q (fun b => D b && !decide (b = r)) s = false := by
     cases h : touches q (fun b => D b && !decide (b = r)) s
     ·rfl
     ·obtain ⟨b, h1, h2, h3⟩ := touches_iff.1 h
      simp at h2
      rw [hno b h1 h2.1 h2.2] at h3
      cases h3
    rw [lack_cov q hs, h2] at h1
    have h3 : needN q D = needN q (fun b => D b && !decide (b = r)) + q.need r := by
     unfold needN
     rw [sumN_at (n := q.m) (s := r) (f := fun b => if (D b && !decide (b = r)) = true then q.need b else 0) (g := fun b => if D b = true then q.need b else 0) (v := q.need r) hr (by simp [hDr]) (fun i hi => by simp [hi])]
    have h4 := cov_mono q s hp (D := fun b => D b && !decide (b = r)) (E := D) (fun b h => by simp at h; exact h.1)
    simp at h1
    omega
   ·have h1 := hl fun b => D b || E b
    have h2 := hl fun b => D b && E b
    have h3 : touches q (fun b => D b || E b) s = true := by rw [touches_or, e2, Bool.or_true]
    have h4 : touches q (fun b => D b && E b) s = false := by
     cases h : touches q (fun b => D b && E b) s
     ·rfl
     ·obtain ⟨b, g1, g2, g3⟩ := touches_iff.1 h
      simp at g2
      rw [hno b g1 g2.1 (fun e => by rw [e, e1] at g2; cases g2.2)] at g3
      cases g3
    rw [lack_cov q hs, if_pos h3] at h1
    rw [lack_cov q hs, h4] at h2
    rw [lack_cov q hs E, if_pos e2] at h
    have h5 := need_split q D E
    have h6 := cov_split q s hp D E
    simp at h2
    omega
def placed (s r k b : Nat) : Bool := decide (k < s) || (decide (k = s) && decide (b < r))
def mergeA (a c : Nat → Nat → Int) (m s r k b : Nat) : Int := if placed s r k b = true ∧ b < m then a k b else c k b
def restA (a : Nat → Nat → Int) (m s r k b : Nat) : Int := if placed s r k b = true ∧ b < m then 0 else a k b
structure Resid (p : Pb) (a : Nat → Nat → Int) (q : Pb) (s r : Nat) : Prop where
 n : q.n = p.n
 m : q.m = p.m
 up : ∀ c, (Bf.Flow q c fun _ => 0) → Bf.Flow p (mergeA a c p.m s r) fun _ => 0
 dn : Bf.Flow q (restA a p.m s r) fun _ => 0
theorem Resid.start {p : Pb} {a : Nat → Nat → Int} (h : Bf.Flow p a fun _ => 0) : Resid p a p 0 0 := by
 have e : ∀ k b, placed 0 0 k b = false := fun k b => by simp [placed]
 exact ⟨rfl, rfl, fun c hc => Flow.congr hc fun k _ b _ => by simp [mergeA, e], Flow.congr h fun k _ b _ => by simp [restA, e]⟩
theorem placed_succ (s r k b : Nat) : placed s (r + 1) k b = (placed s r k b || (decide (k = s) && decide (b = r))) := by
 unfold placed
 rw [Bool.eq_iff_iff]
 simp
 omega
theorem Resid.step {p : Pb} {a : Nat → Nat → Int} {q : Pb} {s r : Nat} (h : Resid p a q s r) (hs : s < p.n) (hr : r < p.m) (hf : q.fits s r = true) : Resid p a (afterP q s r (a s r)) s (r + 1) := by
 have hn := h.n
 have hm := h.m
 have hsr : placed s r s r = false := by simp [placed]
 have hrs : restA a p.m s r s r = a s r := by unfold restA; rw [hsr]; simp
 have hnn := h.dn.nn s (by omega) r (by omega)
 rw [hrs] at hnn
 refine ⟨hn, hm, fun c hc => ?_, ?_⟩
 ·have hz : c s r = 0 := by
   by_cases e : c s r = 0
   ·exact e
   ·have := hc.ok s (by show s < q.n; omega) r (by show r < q.m; omega) e
    simp [afterP] at this
  refine Flow.congr (h.up _ (flow_add (by omega) (by omega) hf hnn hc)) fun k _ b _ => ?_
  unfold mergeA addAt
  rw [placed_succ]
  by_cases e : k = s ∧ b = r
  ·obtain ⟨rfl, rfl⟩ := e
   rw [hsr]
   simp [hr, hz]
  ·have e2 : (decide (k = s) && decide (b = r)) = false := by
    simp
    omega
   rw [e2, Bool.or_false, if_neg e]
 ·have h1 := flow_sub (q := q) (s := s) (r := r) (by omega) (by omega) h.dn
  rw [hrs] at h1
  refine Flow.congr h1 fun k _ b _ => ?_
  unfold addAt restA
  rw [placed_succ]
  by_cases e : k = s ∧ b = r
  ·obtain ⟨rfl, rfl⟩ := e
   rw [hsr]
   simp [hr]
   omega
  ·have e2 : (decide (k = s) && decide (b = r)) = false := by
    simp
    omega
   rw [e2, Bool.or_false, if_neg e]
theorem Resid.zero {p : Pb} {a : Nat → Nat → Int} {q : Pb} {s r : Nat} (h : Resid p a q s r) (hs : s < p.n) (hr : r < p.m) (hf : q.fits s r = false) : a s r = 0 := by
 have hn := h.n
 have hm := h.m
 have hsr : placed s r s r = false := by simp [placed]
 have hrs : restA a p.m s r s r = a s r := by unfold restA; rw [hsr]; simp
 by_cases e : a s r = 0
 ·exact e
 ·have := h.dn.ok s (by omega) r (by omega) (by rw [hrs]; exact e)
  rw [hf] at this; cases this
theorem Resid.skip {p : Pb} {a : Nat → Nat → Int} {q : Pb} {s r : Nat} (h : Resid p a q s r) (hs : s < p.n) (hr : r < p.m) (hf : q.fits s r = false) : Resid p a q s (r + 1) := by
 have hn := h.n
 have hm := h.m
 have hsr : placed s r s r = false := by simp [placed]
 have h0 := h.zero hs hr hf
 refine ⟨hn, hm, fun c hc => ?_, ?_⟩
 ·have hz : c s r = 0 := by
   by_cases e : c s r = 0
   ·exact e
   ·have := hc.ok s (by omega) r (by omega) e
    rw [hf] at this; cases this
  refine Flow.congr (h.up _ hc) fun k _ b _ => ?_
  unfold mergeA
  rw [placed_succ]
  by_cases e : k = s ∧ b = r
  ·obtain ⟨rfl, rfl⟩ := e
   rw [hsr]
   simp [hz, h0]
  ·have e2 : (decide (k = s) && decide (b = r)) = false := by
    simp
    omega
   rw [e2, Bool.or_false]
 ·refine Flow.congr h.dn fun k _ b _ => ?_
  unfold restA
  rw [placed_succ]
  by_cases e : k = s ∧ b = r
  ·obtain ⟨rfl, rfl⟩ := e
   rw [hsr]
   simp [h0]
  ·have e2 : (decide (k = s) && decide (b = r)) = false := by
    simp
    omega
   rw [e2, Bool.or_false]
theorem placed_row (s m k b : Nat) (hb : b < m) : placed (s + 1) 0 k b = placed s m k b := by
 unfold placed
 rw [Bool.eq_iff_iff]
 simp
 omega
theorem Resid.row {p : Pb} {a : Nat → Nat → Int} {q : Pb} {s : Nat} (h : Resid p a q s p.m) : Resid p a q (s + 1) 0 := by
 refine ⟨h.n, h.m, fun c hc => Flow.congr (h.up c hc) fun k _ b _ => ?_, Flow.congr h.dn fun k _ b _ => ?_⟩
 ·unfold mergeA
  by_cases hb : b < p.m
  ·rw [placed_row s p.m k b hb]
  ·simp [hb]
 ·unfold restA
  by_cases hb : b < p.m
  ·rw [placed_row s p.m k b hb]
  ·simp [hb]
theorem Resid.room {p : Pb} {a : Nat → Nat → Int} {q : Pb} {s r : Nat} (hmax : LexMax p a) (h : Resid p a q s r) (hs : s < p.n) (hr : r < p.m) (hf : q.fits s r = true) (hp : ∀ k, k < q.n → 0 ≤ q.sup k) (hn : ∀ b, b < q.m → 0 ≤ q.need b) {v : Int} (l1 : v ≤ q.sup s) (l2 : v ≤ q.need r)
  (le : ∀ D : Nat → Bool, D r = false → touches q D s = true → v ≤ - lackOf q D) (is : v = q.sup s ∨ v = q.need r ∨ ∃ E : Nat → Bool, E r = false ∧ touches q E s = true ∧ v = - lackOf q E) : v = a s r := by
 have hqn := h.n
 have hqm := h.m
 have hsr : placed s r s r = false := by simp [placed]
 have hrs : restA a p.m s r s r = a s r := by unfold restA; rw [hsr]; simp
 have h1 : a s r ≤ v := by
  rcases is with e | e | ⟨E, e1, e2, e⟩
  ·have := sumN_le_of_mem (f := restA a p.m s r s) (n := q.m + 1) (k := r) (fun b hb => h.dn.nn s (by omega) b (by omega)) (by omega)
   rw [h.dn.row s (by omega), hrs] at this
   omega
  ·have := sumN_le_of_mem (f := fun k => restA a p.m s r k r) (n := q.n) (k := s) (fun k hk => h.dn.nn k hk r (by omega)) (by omega)
   have h2 : (0 : Int) + sumN q.n (fun k => restA a p.m s r k r) = q.need r := h.dn.col r (by omega)
   simp only [hrs] at this
   omega
  ·have := flow_le_lack h.dn (s := s) (r := r) (by omega) (by omega) e1 e2
   rw [hrs] at this
   omega
 obtain ⟨h0, c, hc⟩ := room_feas hp hn ⟨_, h.dn⟩ (s := s) (r := r) (by omega) (by omega) l1 l2 le is
 have hz : c s r = 0 := by
  by_cases e : c s r = 0
  ·exact e
  ·have := hc.ok s (by show s < q.n; omega) r (by show r < q.m; omega) e
   simp [afterP] at this
 have h2 := hmax.2 _ (h.up _ (flow_add (by omega) (by omega) hf h0 hc)) s hs r hr (fun k hk b hb => by
  unfold mergeA
  rw [if_pos ⟨by simp [placed, hk], hb⟩]) (fun b hb => by
  unfold mergeA
  rw [if_pos ⟨by simp [placed, hb], by omega⟩])
 unfold mergeA addAt at h2
 rw [hsr] at h2
 simp [hz] at h2
 omega
end Go.Proofs.Ytcadnjmcmegpjaa

/-
 Matching: the contract of the reference's Flow.
 Conditions: none.
-/
namespace Go.Proofs.Ytcadnjmcmegpjaa
open Go Bf
attribute [local irreducible] Tr Exec Stab HasTy Go.Addr.add IntKind.wrap
theorem RoomV.amount {can : List (List Bool)} {left op : List Int} (hv : Vld can left op) {p : Pb} {a : Nat → Nat → Int} (hmax : LexMax p a) {s r : Nat} (hR : Resid p a (pbOf can left op) s r) (hs : s < left.length) (hr : r < op.length) (hf : (can.getD s []).getD r false = true) {v : Int} (h : RoomV can left op s r (2 ^ op.length) v) : v = a s r ∧ 0 ≤ v := by
 have hn := hR.n
 have hm := hR.m
 have e : v = a s r := by
  refine hR.room hmax (by rw [← hn]; exact hs) (by rw [← hm]; exact hr) hf hv.sup0 hv.need0 h.l1 h.l2 (fun D hD ht => ?_) ?_
  ·rw [lackOf_bits hv]
   obtain ⟨b, b1, b2, b3⟩ := touches_iff.1 ht
   have b1' : b < op.length := b1
   have htb : (bitsOf D op.length).testBit b = true := by rw [bitsOf_bit]; simp [b1', b2]
   have h0 : bitsOf D op.length ≠ 0 := fun e => by rw [e] at htb; simp at htb
   refine h.le _ (by omega) (bitsOf_lt _ _) (by rw [bitsOf_bit, hD, Bool.and_false]) ?_
   rw [touch_bits hv hs]
   exact touches_iff.2 ⟨b, b1, htb, b3⟩
  ·rcases h.is with h | h | ⟨set, -, -, h1, h2, h3⟩
   ·exact .inl h
   ·exact .inr (.inl h)
   ·refine .inr (.inr ⟨fun b => set.testBit b, h1, ?_, by rw [h3, lackB_eq hv]⟩)
    rw [touch_bits hv hs] at h2
    exact h2
 refine ⟨e, ?_⟩
 rw [e]
 exact hmax.1.nn s (by rw [← hn]; exact hs) r (by rw [← hm]; exact Nat.le_of_lt hr)
theorem Vld.after {can : List (List Bool)} {left op : List Int} (hv : Vld can left op) {s r : Nat} {row : List Bool} (hrow : can[s]? = some row) {v x y : Int} (h0 : 0 ≤ v) (hx : left[s]? = some x) (hy : op[r]? = some y) (hvx : v ≤ x) (hvy : v ≤ y) : Vld (can.set s (row.set r false)) (left.set s (x - v)) (op.set r (y - v)) := by
 refine ⟨by simpa using hv.ls, by simpa using hv.ln, by simpa using hv.lf, fun q hq => ?_, fun z hz => ?_, fun z hz => ?_⟩
 ·rw [List.length_set]
  rcases List.mem_or_eq_of_mem_set hq with hq | rfl
  ·exact hv.rows q hq
  ·rw [List.length_set]; exact hv.rows row (List.mem_of_getElem? hrow)
 ·rcases List.mem_or_eq_of_mem_set hz with hz | rfl
  ·exact hv.rs z hz
  ·have := hv.rs x (List.mem_of_getElem? hx); omega
 ·rcases List.mem_or_eq_of_mem_set hz with hz | rfl
  ·exact hv.rn z hz
  ·have := hv.rn y (List.mem_of_getElem? hy); omega
end Go.Proofs.Ytcadnjmcmegpjaa

/-
 Honour, plain: what the functions answer, computed.
 Conditions: none.
-/
namespace Go.Proofs.Ytcadnjmcmegpjaa
open Go Bf
def feasC (fits : List (List Bool)) (sup need : List Int) : Bool := decide (∀ s, s ≤ 2 ^ need.length - 1 → (1 ≤ s → s &&& (2 ^ need.length - 1) = s → lackB fits sup need s ≤ 0))
theorem feasC_iff {fits : List (List Bool)} {sup need : List Int} (hv : Vld fits sup need) : Feas (pbOf fits sup need) ↔ feasC fits sup need = true := by
 rw [feas_poss hv, feasC, decide_eq_true_iff]
 exact ⟨fun h s h1 h2 h3 => h s h2 h1 h3, fun h s h1 h2 h3 => h s h2 h1 h3⟩
def accC (p : (Nat → Bool) → Bool) (ask : Nat → Bool) : Nat → Nat → Bool
 | 0 => fun _ => false
 | j + 1 => if (ask j && p (fun b => accC p ask j b || decide (b = j))) = true then fun b => accC p ask j b || decide (b = j) else accC p ask j
theorem acc_comp {P : (Nat → Bool) → Prop} {p : (Nat → Bool) → Bool} {ask : Nat → Bool} (h : ∀ S, P S ↔ p S = true) : ∀ j, acc P ask j = accC p ask j
 | 0 => rfl
 | j + 1 => by
  have ih := acc_comp (ask := ask) h j
  rw [accC]
  by_cases c : ask j = true ∧ P (fun b => acc P ask j b || decide (b = j))
  ·rw [acc_yes c.1 c.2, ih]
   rw [ih] at c
   rw [if_pos (by rw [c.1, Bool.true_and]; exact (h _).1 c.2)]
  ·rw [acc_no c, ih]
   rw [ih] at c
   rw [if_neg]
   intro hc
   obtain ⟨c1, c2⟩ := Bool.and_eq_true_iff.1 hc
   exact c ⟨c1, (h _).2 c2⟩
def failC (x : Fx) (s : St) (e : Nat) : List Nat := (List.range e).filter fun j => askF s j && !accC (fun S => feasC (tabL x.fits x.due s.dy) s.am (mskL s.nd S)) (askF s) (j + 1) j
theorem msk_vld {x : Fx} {s : St} (h : Fit x s) (S : Nat → Bool) : Vld (tabL x.fits x.due s.dy) s.am (mskL s.nd S) :=
 ⟨h.l64, by rw [mskL_length]; exact h.r64, by rw [tabL_length]; exact h.dyl, fun r hr => by rw [tabL_row hr, mskL_length]; exact h.dul, h.amr, mskL_rng h.ndr⟩
theorem failF_comp {x : Fx} {s : St} (h : Fit x s) (e : Nat) : failF x s e = failC x s e := by
 have hP : ∀ S, srvP x s S ↔ feasC (tabL x.fits x.due s.dy) s.am (mskL s.nd S) = true := fun S => feasC_iff (msk_vld h S)
 unfold failF failC failL
 rw [show (fun j => askF s j && !acc (srvP x s) (askF s) (j + 1) j) = fun j => askF s j && !accC (fun S => feasC (tabL x.fits x.due s.dy) s.am (mskL s.nd S)) (askF s) (j + 1) j from funext fun j => by rw [acc_comp hP]]
def markC (x : Fx) (s : St) (at_ : Nat) : St := { s with br := (List.range s.br.length).map fun j => if j ∈ failC x s s.nd.length then (at_ : Int) else s.br.getD j 0 }
theorem markF_comp {x : Fx} {s : St} (h : Fit x s) (at_ : Nat) : markF x s at_ = markC x s at_ := by
 unfold markF markC
 rw [failF_comp h]
def stepC (x : Fx) (s : St) (h : Hp) (at_ : Nat) : Option St :=
 if h.kind = 1 then
  (if (0 ≤ h.sup ∧ h.sup ≤ (s.am.length : Int) - 1) ∧ (1 ≤ h.amt ∧ h.amt ≤ s.am.getD h.sup.toNat 0) then some (markC x { s with am := s.am.set h.sup.toNat (s.am.getD h.sup.toNat 0 - h.amt) } at_) else none)
 else if h.kind = 2 then
  (if (0 ≤ h.sup ∧ h.sup ≤ (s.am.length : Int) - 1) ∧ (s.dy.getD h.sup.toNat 0 ≤ h.day ∧ h.day ≤ 1024) then some (markC x { s with dy := s.dy.set h.sup.toNat h.day } at_) else none)
 else if h.kind = 3 then
  (if ((0 ≤ h.sup ∧ h.sup ≤ (s.am.length : Int) - 1) ∧ (0 ≤ h.req ∧ h.req ≤ (s.nd.length : Int) - 1)) ∧ (s.br.getD h.req.toNat 0 < 0 ∧ ((x.fits.getD h.sup.toNat []).getD h.req.toNat false = true ∧ s.dy.getD h.sup.toNat 0 ≤ x.due.getD h.req.toNat 0) ∧ s.dy.getD h.sup.toNat 0 ≤ h.day ∧ h.day ≤ x.due.getD h.req.toNat 0) ∧ (1 ≤ h.amt ∧ h.amt ≤ min (s.am.getD h.sup.toNat 0) (s.nd.getD h.req.toNat 0)) ∧
    failC x { s with am := s.am.set h.sup.toNat (s.am.getD h.sup.toNat 0 - h.amt), nd := s.nd.set h.req.toNat (s.nd.getD h.req.toNat 0 - h.amt) } s.nd.length = [] then
   some { s with am := s.am.set h.sup.toNat (s.am.getD h.sup.toNat 0 - h.amt), nd := s.nd.set h.req.toNat (s.nd.getD h.req.toNat 0 - h.amt) } else none)
 else none
theorem dy_rng {x : Fx} {s : St} (hf : Fit x s) (i : Nat) : 0 ≤ s.dy.getD i 0 := by
 by_cases h : i < s.dy.length
 ·exact (getD_all hf.dyr h).1
 ·rw [List.getD_eq_getElem?_getD, List.getElem?_eq_none (by omega)]; exact Int.le_refl _
theorem stepF_comp {x : Fx} {s : St} (hf : Fit x s) (h : Hp) (at_ : Nat) : stepF x s h at_ = stepC x s h at_ := by
 unfold stepF stepC
 have hr := getD_rng hf.amr h.sup.toNat
 have hr2 := getD_rng hf.ndr h.req.toNat
 have hr3 := dy_rng hf h.sup.toNat
 by_cases k1 : h.kind = 1
 ·rw [if_pos k1, if_pos k1]
  by_cases c : (0 ≤ h.sup ∧ h.sup ≤ (s.am.length : Int) - 1) ∧ (1 ≤ h.amt ∧ h.amt ≤ s.am.getD h.sup.toNat 0)
  ·rw [if_pos c, if_pos c, markF_comp (hf.setAm (by omega) _)]
  ·rw [if_neg c, if_neg c]
 rw [if_neg k1, if_neg k1]
 by_cases k2 : h.kind = 2
 ·rw [if_pos k2, if_pos k2]
  by_cases c : (0 ≤ h.sup ∧ h.sup ≤ (s.am.length : Int) - 1) ∧ (s.dy.getD h.sup.toNat 0 ≤ h.day ∧ h.day ≤ 1024)
  ·rw [if_pos c, if_pos c, markF_comp (hf.setDy (by omega) _)]
  ·rw [if_neg c, if_neg c]
 rw [if_neg k2, if_neg k2]
 by_cases k3 : h.kind = 3
 ·rw [if_pos k3, if_pos k3]
  by_cases c1 : (1 ≤ h.amt ∧ h.amt ≤ min (s.am.getD h.sup.toNat 0) (s.nd.getD h.req.toNat 0))
  ·have hf2 : Fit x { s with am := s.am.set h.sup.toNat (s.am.getD h.sup.toNat 0 - h.amt), nd := s.nd.set h.req.toNat (s.nd.getD h.req.toNat 0 - h.amt) } := (hf.setAm (v := s.am.getD h.sup.toNat 0 - h.amt) (by omega) h.sup.toNat).setNd (v := s.nd.getD h.req.toNat 0 - h.amt) (by show 0 ≤ s.nd.getD h.req.toNat 0 - h.amt ∧ s.nd.getD h.req.toNat 0 - h.amt ≤ 1048576; omega) h.req.toNat
   rw [failF_comp hf2]
  ·rw [if_neg (fun c => c1 c.2.2.1), if_neg (fun c => c1 c.2.2.1)]
 ·rw [if_neg k3, if_neg k3]
def stepsC (x : Fx) : St → Nat → List Hp → Option St
 | s, _, [] => some s
 | s, at_, h :: l => (stepC x s h at_).bind fun s' => stepsC x s' (at_ + 1) l
theorem stepsF_comp {x : Fx} : ∀ (l : List Hp) (s : St) (at_ : Nat), Fit x s → stepsF x s at_ l = stepsC x s at_ l
 | [], _, _, _ => rfl
 | h :: l, s, at_, hf => by
  rw [stepsF, stepsC, ← stepF_comp hf]
  cases hs : stepF x s h at_ with
  | none => rfl
  | some t => exact stepsF_comp l t (at_ + 1) ((stepF_some.1 hs).keep hf).1
instance (b : Bk) : Decidable (formedB b) := by unfold formedB; infer_instance
def runC (b : Bk) (l : List Hp) : Option St := if formedB b ∧ failC (fxB b) (beginF b) b.reqs.length = [] then stepsC (fxB b) (beginF b) 0 l else none
theorem runF_comp (b : Bk) (l : List Hp) : runF b l = runC b l := by
 unfold runC
 by_cases hf : formedB b
 ·have hfit := begin_fit hf
  by_cases hv : failC (fxB b) (beginF b) b.reqs.length = []
  ·rw [if_pos ⟨hf, hv⟩, run_yes ⟨hf, by rw [failF_comp hfit]; exact hv⟩, stepsF_comp _ _ _ hfit]
  ·rw [if_neg (fun h => hv h.2), run_no (fun h => hv (by rw [← failF_comp hfit]; exact h.2))]
 ·rw [if_neg (fun h => hf h.1), run_no (fun h => hf h.1)]
def becLC (b : Bk) (l : List Hp) (br : List Int) (j q : Nat) : Nat → List Nat → List Nat
 | 0, left => left
 | i + 1, left => becLC b l br j q i (if q ∈ failC (fxB b) (withF b l br j (left.eraseIdx i)) (q + 1) then left.eraseIdx i else left)
theorem becL_comp {b : Bk} {l : List Hp} {s : St} (h : runF b l = some s) {j q : Nat} (hj : j < l.length) : ∀ (i : Nat) (left : List Nat), left.Sublist (List.range (j + 1)) → (∀ t ∈ left, (l.getD t zH).kind ≠ 3) → becL b l s.br j q i left = becLC b l s.br j q i left
 | 0, _, _, _ => rfl
 | i + 1, left, hs, hn => by
  have hs2 := (List.eraseIdx_sublist left i).trans hs
  have hn2 : ∀ t ∈ left.eraseIdx i, (l.getD t zH).kind ≠ 3 := fun t ht => hn t ((List.eraseIdx_sublist left i).subset ht)
  rw [becL, becLC, failF_comp (with_fit h hj hs2 hn2)]
  split
  ·exact becL_comp h hj i _ hs2 hn2
  ·exact becL_comp h hj i _ hs hn
def becC (b : Bk) (l : List Hp) (br : List Int) (q : Nat) : List Nat := becLC b l br (br.getD q 0).toNat q (notShip l ((br.getD q 0).toNat + 1)).length (notShip l ((br.getD q 0).toNat + 1))
theorem becF_comp {b : Bk} {l : List Hp} {s : St} (h : runF b l = some s) {q : Nat} (hq : q < b.reqs.length) (hb : 0 ≤ s.br.getD q 0) : becF b l s.br q = becC b l s.br q := by
 have hj : (s.br.getD q 0).toNat < l.length := by
  rcases run_brk h hq with e | ⟨t, e1, e2, -⟩
  ·omega
  ·omega
 exact becL_comp h hj _ _ (notShip_sub _ _) (fun t ht => (notShip_mem.1 ht).2)
def brkC (k : Bk) (l : List Hp) (s : St) : List (Nat × List Nat) := ((List.range s.br.length).filter fun q => decide (0 ≤ s.br.getD q 0)).map fun q => (q, becC k l s.br q)
theorem brkF_comp {k : Bk} {l : List Hp} {s : St} (h : runF k l = some s) : brkF k l s = brkC k l s := by
 unfold brkF brkC brkN
 apply List.map_congr_left
 intro q hq
 obtain ⟨h1, h2⟩ := List.mem_filter.1 hq
 rw [becF_comp h (by have := (run_len h).2.2.2; have := List.mem_range.1 h1; omega) (of_decide_eq_true h2)]
end Go.Proofs.Ytcadnjmcmegpjaa

/-
 Honour: the sample.
 Conditions: none.
-/
namespace Go.Proofs.Ytcadnjmcmegpjaa
open Go Bf
attribute [local irreducible] Tr Exec Stab HasTy Go.Addr.add IntKind.wrap
theorem hpC_one (h : Hp) : ∀ u ∈ hpC h, u.oneCell' = true := by
 intro u hu
 simp only [hpC, List.mem_cons, List.not_mem_nil, or_false] at hu
 rcases hu with rfl | rfl | rfl | rfl | rfl <;> rfl
theorem ofH {M : Mem} {b t : Nat} {l : List Hp} (h : (box b t (l.flatMap hpC)).ok M) (hl : l.length ≤ 100) : SlOf 5 RHp M (.slice (some ⟨b, 0, none⟩) l.length l.length) l := SlOf.ofBox h (flatMap_one hpC_one _) (by omega) (Elems.flat (R := RHp) hpC_len (fun _ => rfl) l)
end Go.Proofs.Ytcadnjmcmegpjaa

/-
 Honour: what Broken answers, one by one; what is broken was broken by a happening that is no ship. Plain.
 Conditions: none.
-/
namespace Go.Proofs.Ytcadnjmcmegpjaa
open Go Bf
theorem brk_at {k : Bk} {l : List Hp} {s : St} {i : Nat} {x : Nat × List Nat} (h : (brkF k l s)[i]? = some x) : x.1 < s.br.length ∧ 0 ≤ s.br.getD x.1 0 ∧ x.2 = becF k l s.br x.1 := by
 have := List.mem_of_getElem? h
 simp only [brkF, brkN, List.mem_map, List.mem_filter, List.mem_range, decide_eq_true_iff] at this
 obtain ⟨q, ⟨h1, h2⟩, rfl⟩ := this
 exact ⟨h1, h2, rfl⟩
theorem brk_mem {k : Bk} {l : List Hp} {s : St} {q : Nat} : (∃ x ∈ brkF k l s, x.1 = q) ↔ q < s.br.length ∧ 0 ≤ s.br.getD q 0 := by
 constructor
 ·rintro ⟨x, hx, rfl⟩
  obtain ⟨i, hi, rfl⟩ := List.getElem_of_mem hx
  have := brk_at (List.getElem?_eq_getElem hi)
  exact ⟨this.1, this.2.1⟩
 ·rintro ⟨h1, h2⟩
  refine ⟨(q, becF k l s.br q), ?_, rfl⟩
  simp only [brkF, brkN, List.mem_map, List.mem_filter, List.mem_range, decide_eq_true_iff]
  exact ⟨q, ⟨h1, h2⟩, rfl⟩
theorem any_take {α : Type} {p : α → Bool} {l : List α} {i : Nat} {x : α} (h : l[i]? = some x) : (l.take (i + 1)).any p = ((l.take i).any p || p x) := by
 rw [List.take_add_one, h, List.any_append]
 simp
attribute [local irreducible] Tr Exec Stab HasTy Go.Addr.add IntKind.wrap
end Go.Proofs.Ytcadnjmcmegpjaa

/-
 Honour, plain: what happens in two parts is what happens at once.
 Conditions: none.
-/
namespace Go.Proofs.Ytcadnjmcmegpjaa
open Go Bf
structure Twin (t s s' : St) : Prop where
 am : s'.am = s.am
 dy : s'.dy = s.dy
 ndl : s'.nd.length = s.nd.length
 brl : s'.br.length = s.br.length
 dyl : t.dy.length = s.dy.length
 dyg : ∀ i, t.dy.getD i 0 ≤ s.dy.getD i 0
 old : ∀ j, j < s.br.length → 0 ≤ t.br.getD j 0 → 0 ≤ s.br.getD j 0 ∧ s'.br.getD j 0 < 0 ∧ s'.nd.getD j 0 = 0
 new : ∀ j, j < s.br.length → t.br.getD j 0 < 0 → (s'.br.getD j 0 < 0 ↔ s.br.getD j 0 < 0) ∧ s'.nd.getD j 0 = s.nd.getD j 0
def fxT (x : Fx) (t : St) : Fx := ⟨tabL x.fits x.due t.dy, x.due⟩
theorem tab_twin {x : Fx} {t s : St} (hl : t.dy.length = s.dy.length) (hg : ∀ i, t.dy.getD i 0 ≤ s.dy.getD i 0) : tabL (fxT x t).fits (fxT x t).due s.dy = tabL x.fits x.due s.dy := by
 show tabL (tabL x.fits x.due t.dy) x.due s.dy = _
 conv => lhs; unfold tabL
 conv => rhs; unfold tabL
 apply List.map_congr_left
 intro i hi
 apply List.map_congr_left
 intro j hj
 have hi := List.mem_range.1 hi
 have hj := List.mem_range.1 hj
 have e := tabL_get (fits := x.fits) (due := x.due) (dy := t.dy) (i := i) (j := j) (by omega) hj
 unfold tabL at e
 rw [e]
 have hgi := hg i
 by_cases c : s.dy.getD i 0 ≤ x.due.getD j 0
 ·rw [decide_eq_true c, decide_eq_true (show t.dy.getD i 0 ≤ x.due.getD j 0 by omega), Bool.and_true, Bool.and_true]
 ·rw [decide_eq_false c, Bool.and_false, Bool.and_false]
section
variable {x : Fx} {t s s' : St}
theorem Twin.srv (h : Twin t s s') (hn : s.br.length = s.nd.length) (S : Nat → Bool) : srvP (fxT x t) s' S ↔ srvP x s (fun b => S b && decide (t.br.getD b 0 < 0)) := by
 unfold srvP
 rw [h.dy, h.am, tab_twin h.dyl h.dyg]
 have e : mskL s'.nd S = mskL s.nd (fun b => S b && decide (t.br.getD b 0 < 0)) := by
  refine list_eq 0 (by rw [mskL_length, mskL_length]; exact h.ndl) (fun j hj => ?_)
  rw [mskL_length, h.ndl] at hj
  rw [mskL_getD, mskL_getD]
  by_cases c : t.br.getD j 0 < 0
  ·rw [decide_eq_true c, Bool.and_true, (h.new j (by omega) c).2]
  ·rw [decide_eq_false c, Bool.and_false, (h.old j (by omega) (by omega)).2.2]
   simp
 rw [e]
theorem Twin.ask (h : Twin t s s') {j : Nat} (c : t.br.getD j 0 < 0) : askF s' j = askF s j := by
 unfold askF
 rw [h.brl]
 by_cases hj : j < s.br.length
 ·rw [decide_eq_true hj, Bool.true_and, Bool.true_and]
  have := (h.new j hj c).1
  by_cases d : s.br.getD j 0 < 0
  ·rw [decide_eq_true d, decide_eq_true (this.2 d)]
  ·rw [decide_eq_false d, decide_eq_false (fun e => d (this.1 e))]
 ·rw [decide_eq_false hj, Bool.false_and, Bool.false_and]
theorem Twin.asko (h : Twin t s s') {j : Nat} (hj : j < s.br.length) (c : 0 ≤ t.br.getD j 0) : askF s' j = true ∧ askF s j = false := by
 obtain ⟨h1, h2, -⟩ := h.old j hj c
 refine ⟨askF_of (by rw [h.brl]; exact hj) h2, ?_⟩
 cases e : askF s j with
 | false => rfl
 | true => have := (askF_lt e).2; omega
theorem Twin.acc (h : Twin t s s') (hf : Fit x s) : ∀ j, j ≤ s.br.length → (∀ b, acc (srvP x s) (askF s) j b = (acc (srvP (fxT x t) s') (askF s') j b && decide (t.br.getD b 0 < 0))) ∧ ∀ b, b < j → 0 ≤ t.br.getD b 0 → acc (srvP (fxT x t) s') (askF s') j b = true
 | 0, _ => ⟨fun b => rfl, fun b hb => by omega⟩
 | j + 1, hj => by
  obtain ⟨i1, i2⟩ := Twin.acc h hf j (by omega)
  by_cases c : t.br.getD j 0 < 0
  ·have ea := h.ask c
   have eP : srvP (fxT x t) s' (fun b => Bf.acc (srvP (fxT x t) s') (askF s') j b || decide (b = j)) ↔ srvP x s (fun b => Bf.acc (srvP x s) (askF s) j b || decide (b = j)) := by
    rw [h.srv hf.brl]
    have e : (fun b => (Bf.acc (srvP (fxT x t) s') (askF s') j b || decide (b = j)) && decide (t.br.getD b 0 < 0)) = fun b => Bf.acc (srvP x s) (askF s) j b || decide (b = j) := by
     funext b
     rw [i1 b]
     by_cases e : b = j
     ·subst e; rw [decide_eq_true c]; simp
     ·simp [e]
    rw [e]
   by_cases d : askF s j = true ∧ srvP x s (fun b => Bf.acc (srvP x s) (askF s) j b || decide (b = j))
   ·rw [acc_yes d.1 d.2, acc_yes (by rw [ea]; exact d.1) (eP.2 d.2)]
    refine ⟨fun b => ?_, fun b hb hb2 => ?_⟩
    ·dsimp only
     rw [i1 b]
     by_cases e : b = j
     ·subst e; rw [decide_eq_true c]; simp
     ·simp [e]
    ·have := i2 b (by have : b ≠ j := (fun e => by subst e; omega); omega) hb2
     simp [this]
   ·rw [acc_no d, acc_no (fun e => d ⟨by rw [← ea]; exact e.1, eP.1 e.2⟩)]
    exact ⟨i1, fun b hb hb2 => i2 b (by have : b ≠ j := (fun e => by subst e; omega); omega) hb2⟩
  ·obtain ⟨a1, a2⟩ := h.asko (j := j) (by omega) (by omega)
   have hP : srvP (fxT x t) s' (fun b => Bf.acc (srvP (fxT x t) s') (askF s') j b || decide (b = j)) := by
    rw [h.srv hf.brl]
    have e : (fun b => (Bf.acc (srvP (fxT x t) s') (askF s') j b || decide (b = j)) && decide (t.br.getD b 0 < 0)) = Bf.acc (srvP x s) (askF s) j := by
     funext b
     rw [i1 b]
     by_cases e : b = j
     ·subst e; rw [decide_eq_false c, Bool.and_false, Bool.and_false]
     ·simp [e]
    rw [e]
    exact acc_ok (srvP_none hf) j
   rw [acc_yes a1 hP, acc_no (fun e => by rw [a2] at e; cases e.1)]
   refine ⟨fun b => ?_, fun b hb hb2 => ?_⟩
   ·dsimp only
    rw [i1 b]
    by_cases e : b = j
    ·subst e; rw [decide_eq_false c, Bool.and_false, Bool.and_false]
    ·simp [e]
   ·by_cases e : b = j
    ·simp [e]
    ·simp [i2 b (by omega) hb2]
theorem Twin.fail (h : Twin t s s') (hf : Fit x s) {e : Nat} (he : e ≤ s.br.length) : failF (fxT x t) s' e = failF x s e := by
 unfold failF failL
 apply List.filter_congr
 intro j hj
 have hj := List.mem_range.1 hj
 obtain ⟨i1, i2⟩ := h.acc hf (j + 1) (by omega)
 by_cases c : t.br.getD j 0 < 0
 ·rw [h.ask c, i1 j, decide_eq_true c, Bool.and_true]
 ·obtain ⟨a1, a2⟩ := h.asko (j := j) (by omega) (by omega)
  rw [a1, a2, i2 j (by omega) (by omega)]
  rfl
theorem Twin.mark (h : Twin t s s') (hf : Fit x s) (at1 at2 : Nat) : Twin t (markF x s at1) (markF (fxT x t) s' at2) := by
 have hfl : failF (fxT x t) s' s'.nd.length = failF x s s.nd.length := by rw [h.ndl]; exact h.fail hf (by rw [hf.brl]; exact Nat.le_refl _)
 have hb : ∀ j, j < s.br.length → (markF (fxT x t) s' at2).br.getD j 0 = if j ∈ failF x s s.nd.length then (at2 : Int) else s'.br.getD j 0 := fun j hj => by rw [markF_br (by rw [h.brl]; exact hj), hfl]
 refine ⟨h.am, h.dy, h.ndl, by rw [markF_brl, markF_brl]; exact h.brl, h.dyl, h.dyg, fun j hj c => ?_, fun j hj c => ?_⟩
 ·rw [markF_brl] at hj
  obtain ⟨o1, o2, o3⟩ := h.old j hj c
  have hn : j ∉ failF x s s.nd.length := fun hm => by
   have := (askF_lt (mem_failL.1 hm).2.1).2
   omega
  rw [markF_br hj, hb j hj, if_neg hn, if_neg hn]
  exact ⟨o1, o2, o3⟩
 ·rw [markF_brl] at hj
  obtain ⟨o1, o2⟩ := h.new j hj c
  rw [markF_br hj, hb j hj]
  refine ⟨?_, o2⟩
  by_cases hm : j ∈ failF x s s.nd.length
  ·rw [if_pos hm, if_pos hm]
   omega
  ·rw [if_neg hm, if_neg hm]; exact o1
theorem Twin.step (h : Twin t s s') (hf : Fit x s) {y : Hp} {at1 at2 : Nat} {u : St} (hs : Stp x s y at1 u) : ∃ u', Stp (fxT x t) s' y at2 u' ∧ Twin t u u' := by
 have hbl := hf.brl
 have hndl := h.ndl
 have ht : ∀ i, t.dy.getD i 0 ≤ s.dy.getD i 0 := h.dyg
 cases hs with
 | lose i k e1 e2 e3 e4 =>
  have hr := getD_rng hf.amr i
  have h2 : Twin t { s with am := s.am.set i (s.am.getD i 0 - y.amt) } { s' with am := s'.am.set i (s'.am.getD i 0 - y.amt) } := ⟨by show s'.am.set i _ = s.am.set i _; rw [h.am], h.dy, h.ndl, h.brl, h.dyl, h.dyg, h.old, h.new⟩
  exact ⟨_, Stp.lose i k e1 (by rw [h.am]; exact e2) e3 (by rw [h.am]; exact e4), h2.mark (hf.setAm (by omega) i) at1 at2⟩
 | late i k e1 e2 e3 e4 =>
  have h0 : 0 ≤ s.dy.getD i 0 := (getD_all hf.dyr (by have := hf.dyl; omega)).1
  have h2 : Twin t { s with dy := s.dy.set i y.day } { s' with dy := s'.dy.set i y.day } := ⟨h.am, by show s'.dy.set i _ = s.dy.set i _; rw [h.dy], h.ndl, h.brl, by show t.dy.length = (s.dy.set i y.day).length; rw [List.length_set]; exact h.dyl, fun q => by
   show t.dy.getD q 0 ≤ (s.dy.set i y.day).getD q 0
   rw [getD_set _ _ _ _ (by have := hf.dyl; omega)]
   have := ht q
   by_cases c : q = i
   ·rw [if_pos c]; subst c; omega
   ·rw [if_neg c]; exact this, h.old, h.new⟩
  exact ⟨_, Stp.late i k e1 (by rw [h.am]; exact e2) (by rw [h.dy]; exact e3) e4, h2.mark (hf.setDy (by omega) i) at1 at2⟩
 | ship i j k e1 f1 e2 e3 e4 e5 e6 e7 e8 e9 e10 e11 =>
  have hr := getD_rng hf.amr i
  have hr2 := getD_rng hf.ndr j
  have hc : t.br.getD j 0 < 0 := by
   by_cases c : t.br.getD j 0 < 0
   ·exact c
   ·have := (h.old j (by omega) (by omega)).1; omega
  obtain ⟨n1, n2⟩ := h.new j (by omega) hc
  have h2 : Twin t { s with am := s.am.set i (s.am.getD i 0 - y.amt), nd := s.nd.set j (s.nd.getD j 0 - y.amt) } { s' with am := s'.am.set i (s'.am.getD i 0 - y.amt), nd := s'.nd.set j (s'.nd.getD j 0 - y.amt) } :=
   ⟨by show s'.am.set i _ = s.am.set i _; rw [h.am], h.dy, by show (s'.nd.set j _).length = (s.nd.set j _).length; rw [List.length_set, List.length_set]; exact h.ndl, h.brl, h.dyl, h.dyg, fun q hq hq2 => by
    obtain ⟨o1, o2, o3⟩ := h.old q hq hq2
    refine ⟨o1, o2, ?_⟩
    show (s'.nd.set j _).getD q 0 = 0
    rw [getD_set _ _ _ _ (by omega), if_neg (fun e => by subst e; omega)]
    exact o3, fun q hq hq2 => by
    obtain ⟨o1, o2⟩ := h.new q hq hq2
    refine ⟨o1, ?_⟩
    show (s'.nd.set j _).getD q 0 = (s.nd.set j _).getD q 0
    rw [getD_set _ _ _ _ (by omega), getD_set _ _ _ _ e3, n2]
    by_cases c : q = j
    ·rw [if_pos c, if_pos c]
    ·rw [if_neg c, if_neg c]; exact o2⟩
  have hf2 : Fit x { s with am := s.am.set i (s.am.getD i 0 - y.amt), nd := s.nd.set j (s.nd.getD j 0 - y.amt) } := (hf.setAm (v := s.am.getD i 0 - y.amt) (by omega) i).setNd (v := s.nd.getD j 0 - y.amt) (by show 0 ≤ s.nd.getD j 0 - y.amt ∧ s.nd.getD j 0 - y.amt ≤ 1048576; omega) j
  have hdl := h.dyl
  have hfd := hf.dyl
  have hdu := hf.dul
  refine ⟨_, Stp.ship i j k e1 f1 (by rw [h.am]; exact e2) (by omega) (n1.2 e4) ?_ (by rw [h.dy]; exact e6) e7 e8 (by rw [h.am]; exact e9) (by rw [n2]; exact e10) ?_, h2⟩
  ·show ((tabL x.fits x.due t.dy).getD i []).getD j false = true
   rw [tabL_get (by omega) (by omega), e5, decide_eq_true (by have := ht i; omega)]
   rfl
  ·have := h2.fail hf2 (e := s.nd.length) (by show s.nd.length ≤ s.br.length; omega)
   rw [hndl, this]
   exact e11
theorem Twin.back (h : Twin t s s') (hf : Fit x s) {y : Hp} {at1 at2 : Nat} {u' : St} (hs : Stp (fxT x t) s' y at2 u') : ∃ u, Stp x s y at1 u := by
 have hbl := hf.brl
 have hndl := h.ndl
 cases hs with
 | lose i k e1 e2 e3 e4 =>
  rw [h.am] at e2 e4
  exact ⟨_, Stp.lose i k e1 e2 e3 e4⟩
 | late i k e1 e2 e3 e4 =>
  rw [h.am] at e2
  rw [h.dy] at e3
  exact ⟨_, Stp.late i k e1 e2 e3 e4⟩
 | ship i j k e1 f1 e2 e3 e4 e5 e6 e7 e8 e9 e10 e11 =>
  rw [h.am] at e2 e9
  rw [h.dy] at e6
  have hr := getD_rng hf.amr i
  have hr2 := getD_rng hf.ndr j
  have hdl := h.dyl
  have hfd := hf.dyl
  have hdu := hf.dul
  have hc : t.br.getD j 0 < 0 := by
   by_cases c : t.br.getD j 0 < 0
   ·exact c
   ·have := (h.old j (by omega) (by omega)).2.2; omega
  obtain ⟨n1, n2⟩ := h.new j (by omega) hc
  rw [n2] at e10
  have e5' : ((tabL x.fits x.due t.dy).getD i []).getD j false = true := e5
  rw [tabL_get (by omega) (by omega)] at e5'
  have h2 : Twin t { s with am := s.am.set i (s.am.getD i 0 - y.amt), nd := s.nd.set j (s.nd.getD j 0 - y.amt) } { s' with am := s'.am.set i (s'.am.getD i 0 - y.amt), nd := s'.nd.set j (s'.nd.getD j 0 - y.amt) } :=
   ⟨by show s'.am.set i _ = s.am.set i _; rw [h.am], h.dy, by show (s'.nd.set j _).length = (s.nd.set j _).length; rw [List.length_set, List.length_set]; exact h.ndl, h.brl, h.dyl, h.dyg, fun q hq hq2 => by
    obtain ⟨o1, o2, o3⟩ := h.old q hq hq2
    refine ⟨o1, o2, ?_⟩
    show (s'.nd.set j _).getD q 0 = 0
    rw [getD_set _ _ _ _ (by omega), if_neg (fun e => by subst e; omega)]
    exact o3, fun q hq hq2 => by
    obtain ⟨o1, o2⟩ := h.new q hq hq2
    refine ⟨o1, ?_⟩
    show (s'.nd.set j _).getD q 0 = (s.nd.set j _).getD q 0
    rw [getD_set _ _ _ _ (by omega), getD_set _ _ _ _ (by omega), n2]
    by_cases c : q = j
    ·rw [if_pos c, if_pos c]
    ·rw [if_neg c, if_neg c]; exact o2⟩
  have hf2 : Fit x { s with am := s.am.set i (s.am.getD i 0 - y.amt), nd := s.nd.set j (s.nd.getD j 0 - y.amt) } := (hf.setAm (v := s.am.getD i 0 - y.amt) (by omega) i).setNd (v := s.nd.getD j 0 - y.amt) (by show 0 ≤ s.nd.getD j 0 - y.amt ∧ s.nd.getD j 0 - y.amt ≤ 1048576; omega) j
  refine ⟨_, Stp.ship i j k e1 f1 e2 (by omega) (n1.1 e4) (Bool.and_eq_true_iff.1 e5').1 e6 e7 e8 e9 e10 ?_⟩
  have := h2.fail hf2 (e := s.nd.length) (by show s.nd.length ≤ s.br.length; omega)
  rw [← this, ← hndl]
  exact e11
end
end Go.Proofs.Ytcadnjmcmegpjaa

/-
 Honour, plain: what is due is permitted to be shipped, one after the other.
 Conditions: none.
-/
namespace Go.Proofs.Ytcadnjmcmegpjaa
open Go Bf
structure Plan (x : Fx) (s : St) (a : Nat → Nat → Int) : Prop where
 nn : ∀ i, i < s.am.length → ∀ j, j < s.nd.length → 0 ≤ a i j
 ok : ∀ i, i < s.am.length → ∀ j, j < s.nd.length → a i j ≠ 0 → askF s j = true ∧ (x.fits.getD i []).getD j false = true ∧ s.dy.getD i 0 ≤ x.due.getD j 0
 row : ∀ i, i < s.am.length → sumN s.nd.length (a i) ≤ s.am.getD i 0
 col : ∀ j, j < s.nd.length → sumN s.am.length (fun i => a i j) = if askF s j = true then s.nd.getD j 0 else 0
theorem Plan.congr {x : Fx} {s : St} {a b : Nat → Nat → Int} (h : Plan x s a) (e : ∀ i, i < s.am.length → ∀ j, j < s.nd.length → b i j = a i j) : Plan x s b :=
 ⟨fun i hi j hj => by rw [e i hi j hj]; exact h.nn i hi j hj, fun i hi j hj hne => h.ok i hi j hj (by rw [← e i hi j hj]; exact hne), fun i hi => by rw [sumN_congr (fun j hj => e i hi j hj)]; exact h.row i hi,
 fun j hj => by rw [sumN_congr (f := fun i => b i j) (g := fun i => a i j) (fun i hi => e i hi j hj)]; exact h.col j hj⟩
theorem Plan.held {x : Fx} {s : St} {a : Nat → Nat → Int} (h : Plan x s a) (hf : Fit x s) : Held x s := by
 have l3 := hf.dyl
 have l4 := hf.dul
 refine feas_part.2 ⟨a, ⟨fun i hi j hj => ?_, fun i hi j hj hne => ?_, fun i hi => ?_, fun j hj => ?_⟩⟩
 ·have hj' : j < (mskL s.nd (askF s)).length := hj
  rw [mskL_length] at hj'
  exact h.nn i hi j hj'
 ·have hi' : i < s.am.length := hi
  have hj' : j < (mskL s.nd (askF s)).length := hj
  rw [mskL_length] at hj'
  obtain ⟨-, o1, o2⟩ := h.ok i hi j hj' hne
  show ((tabL x.fits x.due s.dy).getD i []).getD j false = true
  rw [tabL_get (by omega) (by omega), o1, decide_eq_true o2]
  rfl
 ·show sumN (mskL s.nd (askF s)).length (a i) ≤ s.am.getD i 0
  rw [mskL_length]
  exact h.row i hi
 ·have hj' : j < (mskL s.nd (askF s)).length := hj
  rw [mskL_length] at hj'
  show sumN s.am.length (fun i => a i j) = (mskL s.nd (askF s)).getD j 0
  rw [mskL_getD]
  exact h.col j hj'
theorem Plan.ship {x : Fx} {s : St} {a : Nat → Nat → Int} (h : Plan x s a) (hf : Fit x s) {i j : Nat} {day : Int} (at_ : Nat) (hi : i < s.am.length) (hj : j < s.nd.length) (hd : x.due.getD j 0 = day) (hp : 0 < a i j) :
  ∃ s', stepF x s ⟨3, (i : Int), (j : Int), day, a i j⟩ at_ = some s' ∧ Fit x s' ∧ Plan x s' (fun u q => if u = i ∧ q = j then 0 else a u q) ∧ (s'.br = s.br ∧ s'.dy = s.dy) ∧ (s'.am.length = s.am.length ∧ s'.nd.length = s.nd.length) ∧ (∀ u, s'.am.getD u 0 ≤ s.am.getD u 0) ∧ ∀ q, q ≠ j → s'.nd.getD q 0 = s.nd.getD q 0 := by
 obtain ⟨o1, o2, o3⟩ := h.ok i hi j hj (by omega)
 have hask := askF_lt o1
 have hrow := h.row i hi
 have hcol := h.col j hj
 rw [if_pos o1] at hcol
 have r1 := sumN_le_of_mem (f := a i) (h.nn i hi) hj
 have r2 := sumN_le_of_mem (f := fun u => a u j) (n := s.am.length) (fun u hu => h.nn u hu j hj) hi
 have hr := getD_rng hf.amr i
 have hr2 := getD_rng hf.ndr j
 skip
 have hf' : Fit x { s with am := s.am.set i (s.am.getD i 0 - a i j), nd := s.nd.set j (s.nd.getD j 0 - a i j) } := (hf.setAm (v := s.am.getD i 0 - a i j) (by omega) i).setNd (v := s.nd.getD j 0 - a i j) (by show 0 ≤ s.nd.getD j 0 - a i j ∧ s.nd.getD j 0 - a i j ≤ 1048576; omega) j
 have hpl : Plan x { s with am := s.am.set i (s.am.getD i 0 - a i j), nd := s.nd.set j (s.nd.getD j 0 - a i j) } (fun u q => if u = i ∧ q = j then 0 else a u q) := by
  refine ⟨fun u hu q hq => ?_, fun u hu q hq hne => ?_, fun u hu => ?_, fun q hq => ?_⟩
  ·have hu' : u < (s.am.set i _).length := hu
   have hq' : q < (s.nd.set j _).length := hq
   rw [List.length_set] at hu' hq'
   split
   ·exact Int.le_refl _
   ·exact h.nn u hu' q hq'
  ·have hu' : u < (s.am.set i _).length := hu
   have hq' : q < (s.nd.set j _).length := hq
   rw [List.length_set] at hu' hq'
   split at hne
   ·exact absurd rfl hne
   ·exact h.ok u hu' q hq' hne
  ·have hu' : u < (s.am.set i _).length := hu
   rw [List.length_set] at hu'
   show sumN (s.nd.set j _).length _ ≤ (s.am.set i _).getD u 0
   rw [List.length_set, getD_set _ _ _ _ hi]
   by_cases e : u = i
   ·subst e
    rw [if_pos rfl, sumN_upd (f := a u) (k := j) hj (fun q hq => by rw [if_neg (fun z => hq z.2)])]
    rw [if_pos ⟨rfl, rfl⟩]
    omega
   ·rw [if_neg e, sumN_congr (g := a u) (fun q _ => by rw [if_neg (fun z => e z.1)])]
    exact h.row u hu'
  ·have hq' : q < (s.nd.set j _).length := hq
   rw [List.length_set] at hq'
   show sumN (s.am.set i _).length _ = if askF s q = true then (s.nd.set j _).getD q 0 else 0
   rw [List.length_set, getD_set _ _ _ _ hj]
   by_cases e : q = j
   ·subst e
    rw [if_pos rfl, if_pos o1, sumN_upd (f := fun u => a u q) (k := i) hi (fun u hu => by rw [if_neg (fun z => hu z.1)])]
    rw [if_pos ⟨rfl, rfl⟩]
    omega
   ·rw [if_neg e, sumN_congr (g := fun u => a u q) (fun u _ => by rw [if_neg (fun z => e z.2)])]
    exact h.col q hq'
 refine ⟨_, stepF_some.2 (Stp.ship i j rfl rfl rfl hi hj hask.2 o2 (by show s.dy.getD i 0 ≤ day; omega) (by show day ≤ x.due.getD j 0; omega) (by show 1 ≤ a i j; omega) (by show a i j ≤ s.am.getD i 0; omega) (by show a i j ≤ s.nd.getD j 0; omega) ?_), hf', hpl, ⟨rfl, rfl⟩, ⟨List.length_set, List.length_set⟩, fun u => ?_, fun q hq => ?_⟩
 ·exact fail_nil hf' (hpl.held hf') _
 ·show (s.am.set i _).getD u 0 ≤ _
  rw [getD_set _ _ _ _ hi]
  by_cases e : u = i
  ·rw [if_pos e, e]
   show s.am.getD i 0 - a i j ≤ s.am.getD i 0
   omega
  ·rw [if_neg e]; exact Int.le_refl _
 ·show (s.nd.set j _).getD q 0 = _
  rw [getD_set _ _ _ _ hj, if_neg hq]
def za (x : Fx) (day : Int) (a : Nat → Nat → Int) (j i : Nat) : Nat → Nat → Int := fun u q => if x.due.getD q 0 = day ∧ (q < j ∨ (q = j ∧ u < i)) then 0 else a u q
structure MidS (x : Fx) (s : St) (day : Int) (s1 : St) (b : Nat → Nat → Int) : Prop where
 fit : Fit x s1
 plan : Plan x s1 b
 br : s1.br = s.br
 dy : s1.dy = s.dy
 aml : s1.am.length = s.am.length
 ndl : s1.nd.length = s.nd.length
 amle : ∀ u, s1.am.getD u 0 ≤ s.am.getD u 0
 nde : ∀ q, x.due.getD q 0 ≠ day → s1.nd.getD q 0 = s.nd.getD q 0
theorem ship_in {x : Fx} {s s1 : St} {day : Int} {a : Nat → Nat → Int} {am : List (List Int)} {at_ : Nat} {L : List Hp} {j : Nat} (hj : j < s.nd.length) (hd : x.due.getD j 0 = day) (ham : ∀ u q, u < s.am.length → q < s.nd.length → amv am u q = a u q) (h0 : ∀ u, u < s.am.length → 0 ≤ a u j) (hs : stepsF x s at_ L = some s1) (hm : MidS x s day s1 (za x day a j 0)) :
  ∀ i, i ≤ s.am.length → ∃ s2, stepsF x s at_ (L ++ shIn am j day i) = some s2 ∧ MidS x s day s2 (za x day a j i)
 | 0, _ => ⟨s1, by rw [shIn]; simpa using hs, hm⟩
 | i + 1, hi => by
  obtain ⟨s2, e2, m2⟩ := ship_in hj hd ham h0 hs hm i (by omega)
  have ez : za x day a j i i j = a i j := by
   rw [za, if_neg]
   omega
  have hn0 := h0 i (by omega)
  rw [shIn_succ, ham i j (by omega) hj]
  by_cases hp : 0 < a i j
  ·obtain ⟨s3, e3, f3, p3, ⟨b3, d3⟩, ⟨l3, l4⟩, le3, ne3⟩ := m2.plan.ship m2.fit (i := i) (j := j) (day := day) (at_ + (L ++ shIn am j day i).length) (by rw [m2.aml]; omega) (by rw [m2.ndl]; exact hj) hd (by rw [ez]; exact hp)
   rw [ez] at e3
   refine ⟨s3, ?_, f3, p3.congr fun u hu q hq => ?_, b3.trans m2.br, d3.trans m2.dy, by rw [l3, m2.aml], by rw [l4, m2.ndl], fun u => Int.le_trans (le3 u) (m2.amle u), fun q hq => by rw [ne3 q (fun e => hq (by rw [e]; exact hd)), m2.nde q hq]⟩
   ·rw [if_pos hp, ← List.append_assoc, stepsF_append, e2]
    show (stepF x s2 _ _).bind _ = _
    rw [e3]
    rfl
   ·unfold za
    by_cases c : u = i ∧ q = j
    ·obtain ⟨rfl, rfl⟩ := c
     rw [if_pos ⟨hd, by omega⟩, if_pos (And.intro rfl rfl)]
    ·rw [if_neg c]
     by_cases c2 : x.due.getD q 0 = day ∧ (q < j ∨ (q = j ∧ u < i))
     ·rw [if_pos c2, if_pos (by omega)]
     ·rw [if_neg c2, if_neg (by omega)]
  ·rw [if_neg hp, List.append_nil]
   refine ⟨s2, e2, m2.fit, m2.plan.congr fun u hu q hq => ?_, m2.br, m2.dy, m2.aml, m2.ndl, m2.amle, m2.nde⟩
   unfold za
   by_cases c2 : x.due.getD q 0 = day ∧ (q < j ∨ (q = j ∧ u < i))
   ·rw [if_pos c2, if_pos (by omega)]
   ·rw [if_neg c2]
    by_cases c : u = i ∧ q = j
    ·obtain ⟨rfl, rfl⟩ := c
     rw [if_pos ⟨hd, by omega⟩]
     omega
    ·rw [if_neg (by omega)]
theorem ship_out {x : Fx} {s : St} {day : Int} {a : Nat → Nat → Int} {am : List (List Int)} {at_ : Nat} {reqs : List Rq} (hdue : x.due = reqs.map (·.due)) (ham : ∀ u q, u < s.am.length → q < s.nd.length → amv am u q = a u q) (hf : Fit x s) (hp : Plan x s a) :
  ∀ j, j ≤ s.nd.length → ∃ s2, stepsF x s at_ (shOut am reqs day s.am.length j) = some s2 ∧ MidS x s day s2 (za x day a j 0)
 | 0, _ => ⟨s, rfl, hf, hp.congr fun u hu q hq => by rw [za, if_neg (by omega)], rfl, rfl, rfl, rfl, fun u => Int.le_refl _, fun q _ => rfl⟩
 | j + 1, hj => by
  obtain ⟨s2, e2, m2⟩ := ship_out hdue ham hf hp (at_ := at_) (am := am) (day := day) j (by omega)
  rw [shOut_succ, ← hdue]
  by_cases hd : x.due.getD j 0 = day
  ·rw [if_pos hd]
   obtain ⟨s3, e3, m3⟩ := ship_in (a := a) (by omega) hd ham (fun u hu => hp.nn u hu j (by omega)) e2 m2 s.am.length (Nat.le_refl _)
   refine ⟨s3, e3, m3.fit, m3.plan.congr fun u hu q hq => ?_, m3.br, m3.dy, m3.aml, m3.ndl, m3.amle, m3.nde⟩
   rw [m3.aml] at hu
   unfold za
   by_cases c : x.due.getD q 0 = day ∧ (q < j ∨ (q = j ∧ u < s.am.length))
   ·rw [if_pos c, if_pos (by omega)]
   ·rw [if_neg c, if_neg (by omega)]
  ·rw [if_neg hd, List.append_nil]
   refine ⟨s2, e2, m2.fit, m2.plan.congr fun u hu q hq => ?_, m2.br, m2.dy, m2.aml, m2.ndl, m2.amle, m2.nde⟩
   unfold za
   by_cases c : x.due.getD q 0 = day ∧ (q < j ∨ (q = j ∧ u < 0))
   ·rw [if_pos c, if_pos (by omega)]
   ·rw [if_neg c, if_neg]
    rintro ⟨c1, c2⟩
    have : q = j := by omega
    subst this
    exact hd c1
theorem plan_of {k : Bk} {s : St} (hf : Fit (fxB k) s) (e1 : s.am.length = k.sups.length) (e2 : s.nd.length = k.reqs.length) (e4 : s.br.length = k.reqs.length) {a : Nat → Nat → Int} (h : LexMax (pbOf (resF k s).fits (beginF (resF k s)).am (beginF (resF k s)).nd) a) : Plan (fxB k) s a := by
 have hp := h.1.part
 rw [res_am e1, res_nd e2 e4] at hp
 have l3 := hf.dyl
 have l4 := hf.dul
 have nn : ∀ i, i < s.am.length → ∀ j, j < s.nd.length → 0 ≤ a i j := fun i hi j hj => hp.nn i hi j (by show j < (mskL s.nd (askF s)).length; rw [mskL_length]; exact hj)
 have col : ∀ j, j < s.nd.length → sumN s.am.length (fun i => a i j) = if askF s j = true then s.nd.getD j 0 else 0 := fun j hj => by
  have := hp.col j (by show j < (mskL s.nd (askF s)).length; rw [mskL_length]; exact hj)
  have e : (pbOf (resF k s).fits s.am (mskL s.nd (askF s))).need j = (mskL s.nd (askF s)).getD j 0 := rfl
  rw [e, mskL_getD] at this
  exact this
 refine ⟨nn, fun i hi j hj hne => ?_, fun i hi => ?_, col⟩
 ·have ho := hp.ok i hi j (by show j < (mskL s.nd (askF s)).length; rw [mskL_length]; exact hj) hne
  have ho' : ((tabL (fxB k).fits (fxB k).due s.dy).getD i []).getD j false = true := ho
  rw [tabL_get (by omega) (by omega)] at ho'
  obtain ⟨o1, o2⟩ := Bool.and_eq_true_iff.1 ho'
  refine ⟨?_, o1, of_decide_eq_true o2⟩
  cases e : askF s j with
  | true => rfl
  | false =>
   have hc := col j hj
   rw [e] at hc
   have := sumN_le_of_mem (f := fun u => a u j) (n := s.am.length) (fun u hu => nn u hu j hj) hi
   have h1 := nn i hi j hj
   simp only [Bool.false_eq_true, if_false] at hc
   skip
   omega
 ·have := hp.row i hi
  have e : (pbOf (resF k s).fits s.am (mskL s.nd (askF s))).m = s.nd.length := mskL_length _ _
  rw [e] at this
  exact this
theorem amv_of {a : Nat → Nat → Int} {m n : Nat} {i j : Nat} (hi : i < n) (hj : j < m) : amv (allocOf a m n) i j = a i j := by
 simp [amv, allocOf, rowOf, List.getD_eq_getElem?_getD, hi, hj]
theorem ships_run {k : Bk} {l : List Hp} {s : St} (hrun : runF k l = some s) {day : Int} (hex : ∃ a, LexMax (pbOf (resF k s).fits (beginF (resF k s)).am (beginF (resF k s)).nd) a) :
  ∃ s2, runF k (l ++ shipsOf (resF k s) day) = some s2 ∧ Fit (fxB k) s2 ∧ s2.br = s.br ∧ s2.am.length = s.am.length ∧ s2.nd.length = s.nd.length ∧ (∀ u, s2.am.getD u 0 ≤ s.am.getD u 0) ∧ (∀ q, (fxB k).due.getD q 0 ≠ day → s2.nd.getD q 0 = s.nd.getD q 0) ∧ ∀ q, q < s.nd.length → askF s q = true → (fxB k).due.getD q 0 = day → s2.nd.getD q 0 = 0 := by
 obtain ⟨a, ha⟩ := hex
 obtain ⟨hfb, hfit, hheld⟩ := run_keep hrun
 obtain ⟨n1, n2, n3, n4⟩ := run_len hrun
 obtain ⟨hv, hst⟩ := run_steps hrun
 have hpl := plan_of hfit n1 n2 n4 ha
 have hl := begin_len (resF k s)
 have hr := res_len k s
 have hdue : (fxB k).due = (resF k s).reqs.map (·.due) := (res_due k s).symm
 obtain ⟨s2, e2, m2⟩ := ship_out (at_ := l.length) (am := alF (resF k s).fits (beginF (resF k s)).am (beginF (resF k s)).nd) (day := day) hdue (fun u q hu hq => by rw [alF_eq ha]; exact amv_of (by omega) (by omega)) hfit hpl s.nd.length (Nat.le_refl _)
 have e3 : shOut (alF (resF k s).fits (beginF (resF k s)).am (beginF (resF k s)).nd) (resF k s).reqs day s.am.length s.nd.length = shipsOf (resF k s) day := by
  rw [shipsOf, show s.am.length = (resF k s).sups.length by omega, show s.nd.length = (resF k s).reqs.length by omega]
 rw [e3] at e2
 refine ⟨s2, ?_, m2.fit, m2.br, m2.aml, m2.ndl, m2.amle, m2.nde, fun q hq hask hd => ?_⟩
 ·unfold runF
  rw [if_pos hv, stepsF_append, hst]
  show stepsF (fxB k) s (0 + l.length) _ = _
  rw [Nat.zero_add]
  exact e2
 ·have hc := m2.plan.col q (by rw [m2.ndl]; exact hq)
  have ha2 : askF s2 q = true := by unfold askF at hask ⊢; rw [m2.br]; exact hask
  rw [if_pos ha2] at hc
  rw [← hc]
  exact sumN_zero fun i _ => by rw [za, if_pos ⟨hd, .inl hq⟩]
/-! the reasons with more happenings behind -/
theorem getD_app {l L : List Hp} {t : Nat} (h : t < l.length) : (l ++ L).getD t zH = l.getD t zH := by
 rw [List.getD_eq_getElem?_getD, List.getD_eq_getElem?_getD, List.getElem?_append_left h]
theorem shIn_mem {am : List (List Int)} {j : Nat} {day : Int} {n : Nat} {h : Hp} (hm : h ∈ shIn am j day n) : h.kind = 3 ∧ h.day = day ∧ 1 ≤ h.amt ∧ h.req = (j : Int) ∧ ∃ i, i < n ∧ amv am i j = h.amt := by
 simp only [shIn, List.mem_flatMap, List.mem_range] at hm
 obtain ⟨i, hi, hm⟩ := hm
 split at hm
 ·rename_i hp
  obtain rfl := List.mem_singleton.1 hm
  exact ⟨rfl, rfl, by show 1 ≤ amv am i j; omega, rfl, i, hi, rfl⟩
 ·cases hm
theorem ships_mem {k : Bk} {l : List Hp} {s : St} (hrun : runF k l = some s) {day : Int} (hex : ∃ a, LexMax (pbOf (resF k s).fits (beginF (resF k s)).am (beginF (resF k s)).nd) a) {h : Hp} (hm : h ∈ shipsOf (resF k s) day) :
  h.kind = 3 ∧ h.day = day ∧ 1 ≤ h.amt ∧ ∃ j : Nat, h.req = (j : Int) ∧ j < k.reqs.length ∧ (fxB k).due.getD j 0 = day ∧ s.br.getD j 0 < 0 := by
 obtain ⟨a, ha⟩ := hex
 obtain ⟨hfb, hfit, hheld⟩ := run_keep hrun
 obtain ⟨n1, n2, n3, n4⟩ := run_len hrun
 have hpl := plan_of hfit n1 n2 n4 ha
 have hl := begin_len (resF k s)
 have hr := res_len k s
 have hdue : (fxB k).due = (resF k s).reqs.map (·.due) := (res_due k s).symm
 simp only [shipsOf, shOut, List.mem_flatMap, List.mem_range] at hm
 obtain ⟨j, hj, hm⟩ := hm
 split at hm
 ·rename_i hd
  obtain ⟨h1, h2, h3, h4, i, hi, h5⟩ := shIn_mem hm
  rw [alF_eq ha, amv_of (by omega) (by omega)] at h5
  have ho := (hpl.ok i (by omega) j (by omega) (by omega)).1
  exact ⟨h1, h2, h3, j, h4, by omega, by rw [hdue]; exact hd, (askF_lt ho).2⟩
 ·cases hm
end Go.Proofs.Ytcadnjmcmegpjaa

/-
 Honour: the law HonourBecause.
 Conditions: none.
-/
namespace Go.Proofs.Ytcadnjmcmegpjaa
open Go Bf
theorem bec_facts {k : Bk} {l : List Hp} {s : St} (hrun : runF k l = some s) {q : Nat} (hq : q < k.reqs.length) (h0 : 0 ≤ s.br.getD q 0) :
  ∃ (j : Nat) (pre : List Nat), j < l.length ∧ s.br.getD q 0 = (j : Int) ∧ becF k l s.br q = pre ++ [j] ∧ (pre ++ [j]).Sublist (notShip l (j + 1)) := by
 rcases run_brk hrun hq with e | ⟨j, e1, e2, e3⟩
 ·omega
 obtain ⟨pre, e4, e5⟩ := becF_last hrun e2 e1 e3
 exact ⟨j, pre, e1, e2, e4, by rw [notShip_succ e3]; exact e5.append (List.Sublist.refl _)⟩
attribute [local irreducible] Tr Exec Stab HasTy Go.Addr.add IntKind.wrap
end Go.Proofs.Ytcadnjmcmegpjaa

/-
 Honour, plain: day by day what is due is shipped.
 Conditions: none.
-/
namespace Go.Proofs.Ytcadnjmcmegpjaa
open Go Bf
theorem run_nil {X : Bk} (h : validB X) : runF X [] = some (beginF X) := by
 unfold runF
 rw [if_pos h]
 rfl
def gv (X0 : Bk) (n d : Nat) : Int := sumN n fun q => if (fxB X0).due.getD q 0 < (d : Int) then (beginF X0).nd.getD q 0 else 0
end Go.Proofs.Ytcadnjmcmegpjaa

/-
 Promises: New. Refusals: amounts and Least.
 Conditions: none.
-/
namespace Go.Proofs.Ytcadnjmcmegpjaa
open Go Bf
attribute [local irreducible] Tr Exec Stab HasTy Go.Addr.add IntKind.wrap
def bkN (known : Int) (s : List Sp) : Bp := ⟨known, s, [], [], []⟩
def NewV (w : Wd) (s : List Sp) (known : Int) (v : Value) (M : Mem) : Prop :=
 (¬ okT s [] ∧ v = .tuple #[.agg #[.int .i64 0, .slice none 0 0, .slice none 0 0, .slice none 0 0, .slice none 0 0], .int .i64 290]) ∨ (okT s [] ∧ ¬ (s.map (·.no)).Nodup ∧ v = .tuple #[.agg #[.int .i64 0, .slice none 0 0, .slice none 0 0, .slice none 0 0, .slice none 0 0], .int .i64 310]) ∨
 (okT s [] ∧ (s.map (·.no)).Nodup ∧ ∃ x, v = .tuple #[x, .int .i64 0] ∧ RBp M x (mkF w (bkN known s) []))
set_option maxRecDepth 20000 in
set_option maxHeartbeats 8000000 in
theorem new_fn (M : Mem) (ws : List Value) (w : Wd) (hw : RWd M ws w) (As : Option Addr) (cs : Nat) (s : List Sp) (hs : SlOf 6 RSpC M (.slice As s.length cs) s) (known : Int) :
  Fn0 Try.prog 6 [.agg ws.toArray, .slice As s.length cs, .int .i64 known] M (fun v M' => NewV w s known v M') := by
 have h11 := hw.len
 refine Fn.intro Try.func6 rfl rfl Try.ntmps6 rfl fun E F => ?_
 (repeat (first | ((with_reducible refine Tr.step rfl ?_); (first | (refine xmQ ?_) | (refine xaQ ?_) | ((with_reducible refine Knd.load ?_); (refine Exec.stab rfl (Stab.loadW rfl (tysOk.get rfl) rfl (by repeat (first | exact Has.here | apply Has.there)) (by assumption)) rfl ?_)) | ((with_reducible refine Knd.box ?_); (refine Exec.box rfl rfl (fun b => ?_))) | ((with_reducible refine Knd.alloc ?_); (refine Exec.alloc (tysOk.get rfl) rfl rfl (fun b => ?_))) | ((with_reducible refine Knd.build ?_); (refine Exec.stab rfl (Stab.build tysOk rfl rfl rfl rfl (by repeat (first | exact BuildP.nil | ((apply BuildP.one); (rfl); (rfl); (first | rfl | assumption); (repeat (first | exact SetL.z | apply SetL.s)))))) rfl ?_)))) | (with_reducible first | apply Tr.next | apply Tr.seq | apply Tr.region | apply Tr.nil)))
 rename_i b3
 generalize b = b6
 ((refine Tr.step rfl ?_))
 refine Exec.call (A := []) rfl (maker_fn M ws (bkN known s) As none none none cs 0 0 0) (List.Perm.refl _) rfl ?_
 rintro _ _ _ _ ⟨b8, b9, rfl, rfl, rfl⟩
 (skip)
 ((refine Tr.step rfl ?_))
 refine Exec.callv (first := []) (cap := [.pointer (some ⟨b8, 0, none⟩), .pointer (some ⟨b9, 0, none⟩)]) (A := [box b9 47 [.int .i64 known, .slice As s.length cs, .slice none 0 0, .slice none 0 0, .slice none 0 0], box b8 38 ws]) rfl rfl (maker1_fn M ws w hw (bkN known s) As none none none cs 0 0 0 hs (SlOf.nil _ _ _) (SlOf.nil _ _ _) (SlOf.nil _ _ _) b8 b9 none 0 [] (SlOf.nil _ _ _)) (take2 (by repeat (first | exact Del.here | apply Del.there)) (by repeat (first | exact Del.here | apply Del.there))) rfl ?_
 rintro v M1 _ hm1 ⟨rfl, hmk⟩
 rcases hmk with ⟨hnk, rfl⟩ | ⟨hok, x, rfl, As', cs', Ar', cr', Af', cf', Ad', cd', rfl, g1, g2, g3, g4⟩
 ·(repeat (first | ((with_reducible refine Tr.step rfl ?_); (first | (refine xmQ ?_) | (refine xaQ ?_) | (refine xiQ ?_) | (refine xWQ ?_) | ((with_reducible refine Knd.extract ?_); (refine Exec.stab rfl (Stab.extract rfl rfl) rfl ?_)) | ((with_reducible refine Knd.build ?_); (refine Exec.stab rfl (Stab.build tysOk rfl rfl rfl rfl (by repeat (exact BuildP.nil))) rfl ?_)))) | (with_reducible first | apply Tr.next | apply Tr.seq | apply Tr.region | apply Tr.nil | apply Tr.ret | apply Tr.then_ret) | (refine Tr.cond_t rfl (by first | (with_reducible assumption) | omega) ?_)))
  (refine Tr.done (by first | exact .inl rfl | exact .inr rfl) rfl (by repeat (first | exact RVs.nil | (apply RVs.cons; (first | exact RV.tmp rfl | exact RV.cellW (by rfl) (tysOk.get (by rfl)) (by rfl) (by repeat (first | exact Has.here | apply Has.there)) (by first | rfl | assumption))))) (by first | exact Mem.le.refl _ | assumption) (by exact ⟨[_, _, _, _], rfl⟩) ⟨rfl, ?_⟩)
  exact .inl ⟨hnk, rfl⟩
 dsimp only [mkF] at g1 g2 g3 g4 ⊢
 (refine rQ ?_)
 ((refine Tr.step rfl ?_)); refine Exec.call0 rfl (twins_fn M1 As cs s (hs.mono RSpC.mono hm1)) rfl ?_
 rintro _ _ _ ⟨⟨tw, rfl, htw⟩, rfl⟩
 cases tw with
 | true =>
  (repeat (first | ((with_reducible refine Tr.step rfl ?_); (first | (refine xaQ ?_) | (refine xWQ ?_) | ((with_reducible refine Knd.build ?_); (refine Exec.stab rfl (Stab.build tysOk rfl rfl rfl rfl (by repeat (exact BuildP.nil))) rfl ?_)))) | (with_reducible first | apply Tr.next | apply Tr.seq | apply Tr.region | apply Tr.nil | apply Tr.ret | apply Tr.then_ret) | (refine Tr.cond_bt rfl (by (with_reducible rfl)) ?_)))
  (refine Tr.done (by first | exact .inl rfl | exact .inr rfl) rfl (by repeat (first | exact RVs.nil | (apply RVs.cons; (first | exact RV.tmp rfl | exact RV.cellW (by rfl) (tysOk.get (by rfl)) (by rfl) (by repeat (first | exact Has.here | apply Has.there)) (by first | rfl | assumption))))) (by first | exact Mem.le.refl _ | assumption) (by exact ⟨[_, _, _, _], rfl⟩) ⟨rfl, ?_⟩)
  exact .inr (.inl ⟨hok, fun h => (by have := htw.2 h; cases this), rfl⟩)
 | false =>
  (refine rQ ?_)
  (refine Tr.done (by first | exact .inl rfl | exact .inr rfl) rfl (by repeat (first | exact RVs.nil | (apply RVs.cons; (first | exact RV.tmp rfl | exact RV.cellW (by rfl) (tysOk.get (by rfl)) (by rfl) (by repeat (first | exact Has.here | apply Has.there)) (by first | rfl | assumption))))) (by first | exact Mem.le.refl _ | assumption) (by exact ⟨[_, _, _, _], rfl⟩) ⟨rfl, ?_⟩)
  exact .inr (.inr ⟨hok, htw.1 rfl, _, rfl, As', cs', Ar', cr', Af', cf', Ad', cd', rfl, g1, g2, g3, g4⟩)
end Go.Proofs.Ytcadnjmcmegpjaa

/-
 Matching: the contracts of slices.Equal and of Check, of the program and of the reference.
 Conditions: none.
-/
namespace Go.Proofs.Ytcadnjmcmegpjaa
open Go Bf
attribute [local irreducible] Tr Exec Stab HasTy Go.Addr.add IntKind.wrap
def am2 (am : List (List Int)) (i j : Nat) : Int := (am.getD i []).getD j 0
structure CheckP (fits : List (List Bool)) (sup need : List Int) (am : List (List Int)) : Prop where
 len : am.length = sup.length
 rows : ∀ r ∈ am, r.length = need.length
 nn : ∀ i j, i < sup.length → j < need.length → 0 ≤ am2 am i j
 ok : ∀ i j, i < sup.length → j < need.length → 0 < am2 am i j → (fits.getD i []).getD j false = true
 row : ∀ i, i < sup.length → sumN need.length (am2 am i) ≤ sup.getD i 0
 col : ∀ j, j < need.length → sumN sup.length (fun i => am2 am i j) = need.getD j 0
theorem CheckP.le {fits : List (List Bool)} {sup need : List Int} {am : List (List Int)} (h : CheckP fits sup need am) {i j : Nat} (hi : i < sup.length) (hj : j < need.length) : am2 am i j ≤ sup.getD i 0 := by
 have h1 := sumN_le_of_mem (f := am2 am i) (n := need.length) (k := j) (fun b hb => h.nn i b hi hb) hj
 have h2 := h.row i hi
 omega
structure Upto (fits : List (List Bool)) (sup need : List Int) (am : List (List Int)) (i j : Nat) (col : List Int) : Prop where
 cl : col.length = need.length
 ok : ∀ i' j', i' < sup.length → j' < need.length → (i' < i ∨ i' = i ∧ j' < j) → 0 ≤ am2 am i' j' ∧ am2 am i' j' ≤ 1048576 ∧ (0 < am2 am i' j' → (fits.getD i' []).getD j' false = true)
 rw_ : ∀ i', i' < i → (am.getD i' []).length = need.length ∧ sumN need.length (am2 am i') ≤ sup.getD i' 0
 sm : ∀ q, q < need.length → col.getD q 0 = sumN i (fun i' => am2 am i' q) + if q < j then am2 am i q else 0
theorem Upto.start (fits : List (List Bool)) (sup need : List Int) (am : List (List Int)) : Upto fits sup need am 0 0 (List.replicate need.length 0) := by
 refine ⟨by simp, fun _ _ _ _ h => by omega, fun _ h => by omega, fun q hq => ?_⟩
 rw [if_neg (by omega)]
 show _ = (0 : Int) + 0
 rw [List.getD_eq_getElem?_getD]; simp [hq]
theorem Upto.step {fits : List (List Bool)} {sup need : List Int} {am : List (List Int)} {i j : Nat} {col : List Int} (h : Upto fits sup need am i j col) (hj : j < need.length) (h0 : 0 ≤ am2 am i j ∧ am2 am i j ≤ 1048576) (hf : 0 < am2 am i j → (fits.getD i []).getD j false = true) :
  Upto fits sup need am i (j + 1) (col.set j (col.getD j 0 + am2 am i j)) := by
 refine ⟨by simpa using h.cl, fun i' j' h1 h2 h3 => ?_, h.rw_, fun q hq => ?_⟩
 ·by_cases e : i' = i ∧ j' = j
  ·obtain ⟨rfl, rfl⟩ := e
   exact ⟨h0.1, h0.2, hf⟩
  ·exact h.ok i' j' h1 h2 (by omega)
 ·by_cases e : q = j
  ·subst e
   rw [getD_set_self' (by rw [h.cl]; exact hj), h.sm q hq, if_neg (by omega), if_pos (by omega)]
   omega
  ·rw [getD_set_ne' (Ne.symm e), h.sm q hq]
   have : q < j + 1 ↔ q < j := by omega
   simp only [this]
theorem Upto.row {fits : List (List Bool)} {sup need : List Int} {am : List (List Int)} {i : Nat} {col : List Int} {r : List Int} (h : Upto fits sup need am i need.length col) (hr : am[i]? = some r) (hrl : r.length = need.length) (hs : sumN need.length (am2 am i) ≤ sup.getD i 0) : Upto fits sup need am (i + 1) 0 col := by
 refine ⟨h.cl, fun i' j' h1 h2 h3 => h.ok i' j' h1 h2 (by omega), fun i' h1 => ?_, fun q hq => ?_⟩
 ·by_cases e : i' = i
  ·subst e
   exact ⟨by rw [getD_of (d := []) hr]; exact hrl, hs⟩
  ·exact h.rw_ i' (by omega)
 ·rw [h.sm q hq, if_pos hq, if_neg (by omega)]
  show _ = (sumN i (fun i' => am2 am i' q) + am2 am i q) + 0
  omega
theorem Upto.fin {fits : List (List Bool)} {sup need : List Int} {am : List (List Int)} {col : List Int} (h : Upto fits sup need am sup.length 0 col) (hl : am.length = sup.length) : col = need ↔ CheckP fits sup need am := by
 refine ⟨fun e => ⟨hl, fun r hr => ?_, fun i j hi hj => (h.ok i j hi hj (.inl hi)).1, fun i j hi hj => (h.ok i j hi hj (.inl hi)).2.2, fun i hi => (h.rw_ i hi).2, fun j hj => ?_⟩, fun hc => ?_⟩
 ·obtain ⟨i, hi⟩ := List.mem_iff_getElem?.1 hr
  have := (h.rw_ i (by have := (List.getElem?_eq_some_iff.1 hi).1; omega)).1
  rw [getD_of (d := []) hi] at this
  exact this
 ·have := h.sm j hj
  rw [if_neg (by omega), e] at this
  omega
 ·apply List.ext_getElem?
  intro q
  by_cases hq : q < need.length
  ·have h1 := h.sm q hq
   rw [if_neg (by omega), hc.col q hq] at h1
   obtain ⟨a, ha⟩ := get_of_lt (xs := col) (i := q) (by rw [h.cl]; exact hq)
   obtain ⟨b, hb⟩ := get_of_lt hq
   rw [getD_of ha, getD_of hb] at h1
   rw [ha, hb, h1]; simp
  ·rw [List.getElem?_eq_none (by rw [h.cl]; omega), List.getElem?_eq_none (by omega)]
def CheckR (fits : List (List Bool)) (sup need : List Int) (am : List (List Int)) (r : Value) : Prop :=
 (validF fits sup need = false ∧ r = .tuple #[.bool false, .int .i64 300]) ∨ (Vld fits sup need ∧ ∃ b : Bool, r = .tuple #[.bool b, .int .i64 0] ∧ (b = true ↔ CheckP fits sup need am))
theorem CheckR.no {fits : List (List Bool)} {sup need : List Int} {am : List (List Int)} (hv : Vld fits sup need) (h : ¬ CheckP fits sup need am) : CheckR fits sup need am (.tuple #[.bool false, .int .i64 0]) := .inr ⟨hv, false, rfl, by simp [h]⟩
end Go.Proofs.Ytcadnjmcmegpjaa

/-
 Matching: the contract of the program's Cut.
 Conditions: none.
-/
namespace Go.Proofs.Ytcadnjmcmegpjaa
open Go Bf
attribute [local irreducible] Tr Exec Stab HasTy Go.Addr.add IntKind.wrap
def AscTo (m : Nat) (l : List Int) (i : Nat) : Prop := ∀ q x, q < i → l[q]? = some x → 0 ≤ x ∧ x < m ∧ ∀ y, 0 < q → l[q - 1]? = some y → y < x
def cutNeed (need : List Int) (l : List Int) : Int := (l.map fun x => need.getD x.toNat 0).sum
def cutTouch (row : List Bool) (l : List Int) : Bool := l.any fun x => row.getD x.toNat false
def cutHave (fits : List (List Bool)) (sup : List Int) (l : List Int) (i : Nat) : Int := sumN i fun k => if cutTouch (fits.getD k []) l then sup.getD k 0 else 0
def CutP (fits : List (List Bool)) (sup need l : List Int) : Prop := AscTo need.length l l.length ∧ cutHave fits sup l sup.length < cutNeed need l
def CutR (fits : List (List Bool)) (sup need l : List Int) (r : Value) : Prop :=
 (validF fits sup need = false ∧ r = .tuple #[.bool false, .int .i64 300]) ∨ (Vld fits sup need ∧ ∃ b : Bool, r = .tuple #[.bool b, .int .i64 0] ∧ (b = true ↔ CutP fits sup need l))
theorem CutR.no {fits : List (List Bool)} {sup need l : List Int} (hv : Vld fits sup need) (h : ¬ AscTo need.length l l.length) : CutR fits sup need l (.tuple #[.bool false, .int .i64 0]) := .inr ⟨hv, false, rfl, by simp [CutP, h]⟩
theorem AscTo.step {m i : Nat} {l : List Int} {x : Int} (h : AscTo m l i) (hx : l[i]? = some x) (h1 : 0 ≤ x ∧ x < m) (h2 : ∀ y, 0 < i → l[i - 1]? = some y → y < x) : AscTo m l (i + 1) := fun q z hq hz => by
 by_cases e : q = i
 ·subst e
  rw [hx] at hz
  cases hz
  exact ⟨h1.1, h1.2, h2⟩
 ·exact h q z (by omega) hz
theorem AscTo.ge {m : Nat} {l : List Int} : ∀ {i : Nat}, AscTo m l i → i ≤ l.length → ∀ x, 0 < i → l[i - 1]? = some x → (i : Int) - 1 ≤ x ∧ x < m
 | 0, _, _, _, h, _ => by omega
 | i + 1, h, hl, x, _, hx => by
  simp only [Nat.add_sub_cancel] at hx
  have h1 := h i x (by omega) hx
  by_cases e : i = 0
  ·subst e; exact ⟨by simpa using h1.1, h1.2.1⟩
  ·obtain ⟨y, hy⟩ := get_of_lt (xs := l) (i := i - 1) (by omega)
   have h2 := AscTo.ge (i := i) (fun q z hq hz => h q z (by omega) hz) (by omega) y (by omega) hy
   have h3 := h1.2.2 y (by omega) hy
   exact ⟨by push_cast; omega, h1.2.1⟩
theorem AscTo.count {m i : Nat} {l : List Int} (h : AscTo m l i) (hl : i ≤ l.length) : i ≤ m := by
 by_cases e : i = 0
 ·omega
 ·obtain ⟨y, hy⟩ := get_of_lt (xs := l) (i := i - 1) (by omega)
  have := h.ge hl y (by omega) hy
  omega
end Go.Proofs.Ytcadnjmcmegpjaa

/-
 Matching, plain: a problem without some requests; cuts of which none can be left out; problems with more.
 Conditions: none.
-/
namespace Go.Proofs.Ytcadnjmcmegpjaa
open Go Bf
theorem keep_idx {α : Type} (o : Nat → Bool) (d : α) (l : List α) : ∀ k, k ≤ l.length → keep o (l.take k) 0 = ((List.range k).filter fun i => !o i).map fun i => l.getD i d
 | 0, _ => by simp [keep]
 | k + 1, h => by
  obtain ⟨x, hx⟩ := get_of_lt (xs := l) (i := k) (by omega)
  rw [keep_take o l 0 k x hx, keep_idx o d l k (by omega), List.range_succ, List.filter_append, List.map_append, Nat.zero_add]
  congr 1
  cases ho : o k
  ·simp [ho, hx]
  ·simp [ho]
theorem keep_map {α : Type} (o : Nat → Bool) (d : α) (l : List α) : keep o l 0 = ((List.range l.length).filter fun i => !o i).map fun i => l.getD i d := by
 have := keep_idx o d l l.length (Nat.le_refl _)
 rwa [List.take_length] at this
def idx (S : Nat → Bool) (m : Nat) : List Nat := (List.range m).filter S
theorem idx_succ (S : Nat → Bool) (m : Nat) : idx S (m + 1) = idx S m ++ if S m = true then [m] else [] := by
 unfold idx
 rw [List.range_succ, List.filter_append]
 cases h : S m <;> simp [h]
theorem idx_mem {S : Nat → Bool} {m j b : Nat} (h : (idx S m)[j]? = some b) : b < m ∧ S b = true := by
 have := List.mem_of_getElem? h
 simpa [idx] using this
theorem idx_sum (S : Nat → Bool) (f : Nat → Int) : ∀ m, sumN m (fun b => if S b = true then f b else 0) = sumN (idx S m).length fun j => f ((idx S m).getD j 0)
 | 0 => rfl
 | m + 1 => by
  have ih := idx_sum S f m
  rw [idx_succ]
  show sumN m (fun b => if S b = true then f b else 0) + (if S m = true then f m else 0) = _
  rw [ih]
  by_cases h : S m = true
  ·rw [if_pos h, if_pos h, List.length_append]
   show _ = sumN (idx S m).length _ + f _
   congr 1
   ·refine sumN_congr fun j hj => ?_
    congr 1
    rw [List.getD_eq_getElem?_getD, List.getD_eq_getElem?_getD, List.getElem?_append_left hj]
   ·congr 1
    rw [List.getD_eq_getElem?_getD, List.getElem?_append_right (Nat.le_refl _)]
    simp
  ·rw [if_neg h, if_neg h, List.append_nil]; omega
theorem keep_len_idx {α : Type} (o : Nat → Bool) (l : List α) : (keep o l 0).length = (idx (fun i => !o i) l.length).length := by
 cases l with
 | nil => rfl
 | cons x l => rw [keep_map o x]; simp [idx]
theorem keep_get {α : Type} (o : Nat → Bool) (d : α) (l : List α) {j : Nat} (hj : j < (idx (fun i => !o i) l.length).length) : (keep o l 0).getD j d = l.getD ((idx (fun i => !o i) l.length).getD j 0) d := by
 rw [keep_map o d]
 obtain ⟨b, hb⟩ := get_of_lt hj
 have : (((List.range l.length).filter fun i => !o i).map fun i => l.getD i d)[j]? = some (l.getD b d) := by
  rw [List.getElem?_map]
  show (idx (fun i => !o i) l.length)[j]?.map _ = _
  rw [hb]; rfl
 rw [getD_of this, getD_of hb]
theorem feas_keep {fits : List (List Bool)} {sup need : List Int} (hv : Vld fits sup need) (o : Nat → Bool) (h : Feas (pbS fits sup need fun b => !o b)) : Feas (pbOf (fits.map fun r => keep o r 0) sup (keep o need 0)) := by
 obtain ⟨a, ha⟩ := h
 let S := fun b => !o b
 let ix := idx S need.length
 have hlf := hv.lf
 have hm : (keep o need 0).length = ix.length := keep_len_idx o need
 have hz : ∀ k, k < sup.length → ∀ b, b < need.length → S b = false → a k b = 0 := fun k hk b hb hS => by
  have h1 : (0 : Int) + sumN sup.length (fun k => a k b) = if S b = true then need.getD b 0 else 0 := ha.col b hb
  rw [hS, if_neg (by simp)] at h1
  have h2 := sumN_le_of_mem (f := fun k => a k b) (n := sup.length) (k := k) (fun k hk => ha.nn k hk b (Nat.le_of_lt hb)) hk
  have h3 := ha.nn k hk b (Nat.le_of_lt hb)
  have h2' : a k b ≤ sumN sup.length (fun k => a k b) := h2
  omega
 refine ⟨fun k j => if j = ix.length then a k need.length else a k (ix.getD j 0), ⟨fun k hk j hj => ?_, fun k hk j hj h0 => ?_, fun k hk => ?_⟩, fun j hj => ?_, fun _ _ => Int.le_refl _⟩
 ·by_cases e : j = ix.length
  ·simp only [if_pos e]
   exact ha.nn k hk _ (Nat.le_refl _)
  ·simp only [if_neg e]
   have hj' : j ≤ (keep o need 0).length := hj
   obtain ⟨b, hb⟩ := get_of_lt (xs := ix) (i := j) (by omega)
   rw [getD_of hb]
   exact ha.nn k hk b (Nat.le_of_lt (idx_mem hb).1)
 ·have hj' : j < (keep o need 0).length := hj
  have e : ¬ j = ix.length := by omega
  simp only [if_neg e] at h0
  obtain ⟨b, hb⟩ := get_of_lt (xs := ix) (i := j) (by omega)
  rw [getD_of hb] at h0
  have h1 := ha.ok k hk b (idx_mem hb).1 h0
  show ((fits.map fun r => keep o r 0).getD k []).getD j false = true
  have hk' : k < sup.length := hk
  obtain ⟨row, hr⟩ := get_of_lt (xs := fits) (i := k) (by omega)
  have hrl := hv.rows row (List.mem_of_getElem? hr)
  rw [getD_of (d := []) (show (fits.map fun r => keep o r 0)[k]? = some (keep o row 0) by simp [hr])]
  rw [keep_get o false row (by rw [hrl]; show j < ix.length; omega), hrl]
  show row.getD (ix.getD j 0) false = true
  rw [getD_of hb]
  have h2 : (fits.getD k []).getD b false = true := h1
  rwa [getD_of (d := []) hr] at h2
 ·have hk' : k < sup.length := hk
  show sumN ((keep o need 0).length + 1) _ = sup.getD k 0
  rw [hm]
  show sumN ix.length (fun j => if j = ix.length then a k need.length else a k (ix.getD j 0)) + (if ix.length = ix.length then a k need.length else a k (ix.getD ix.length 0)) = _
  rw [if_pos rfl, sumN_congr (g := fun j => a k (ix.getD j 0)) (fun j hj => if_neg (by omega)), ← idx_sum S (a k) need.length]
  have h1 : sumN need.length (a k) + a k need.length = sup.getD k 0 := ha.row k hk
  rw [← h1]
  congr 1
  refine sumN_congr fun b hb => ?_
  cases hS : S b
  ·simp [hz k hk' b hb hS]
  ·simp
 ·have hj' : j < (keep o need 0).length := hj
  obtain ⟨b, hb⟩ := get_of_lt (xs := ix) (i := j) (by omega)
  have hbm := idx_mem hb
  show (0 : Int) + sumN sup.length (fun k => if j = ix.length then a k need.length else a k (ix.getD j 0)) = (keep o need 0).getD j 0
  rw [sumN_congr (g := fun k => a k b) (fun k _ => by rw [if_neg (by omega), getD_of hb])]
  have h1 : (0 : Int) + sumN sup.length (fun k => a k b) = if S b = true then need.getD b 0 else 0 := ha.col b hbm.1
  rw [h1, if_pos hbm.2, keep_get o 0 need (by show j < ix.length; omega)]
  show need.getD b 0 = need.getD (ix.getD j 0) 0
  rw [getD_of hb]
theorem feasS_mono {fits : List (List Bool)} {sup need : List Int} (hv : Vld fits sup need) {S T : Nat → Bool} (h : ∀ b, b < need.length → T b = true → S b = true) (hf : Feas (pbS fits sup need S)) : Feas (pbS fits sup need T) := by
 rw [feasS_iff hv] at hf ⊢
 intro D
 refine Int.le_trans ?_ (hf D)
 unfold lackOf
 refine Int.sub_le_sub (sumN_le fun b hb => ?_) (Int.le_refl _)
 show (if D b = true then (if T b = true then need.getD b 0 else 0) else 0) ≤ if D b = true then (if S b = true then need.getD b 0 else 0) else 0
 have := (getD_rng hv.rn b).1
 by_cases hD : D b = true
 ·rw [if_pos hD, if_pos hD]
  by_cases hT : T b = true
  ·rw [if_pos hT, if_pos (h b hb hT)]; exact Int.le_refl _
  ·rw [if_neg hT]; split <;> omega
 ·rw [if_neg hD, if_neg hD]; exact Int.le_refl _
theorem cutF_props {fits : List (List Bool)} {sup need : List Int} (hv : Vld fits sup need) : ∀ (r : Nat) (S : Nat → Bool), r ≤ need.length → (∀ b, b < r → S b = true) → ¬ Feas (pbS fits sup need S) → (∀ b, r ≤ b → b < need.length → S b = true → Feas (pbS fits sup need fun c => S c && decide (c ≠ b))) →
  ¬ Feas (pbS fits sup need (cutF (fun S => Feas (pbS fits sup need S)) r S)) ∧ (∀ b, b < need.length → cutF (fun S => Feas (pbS fits sup need S)) r S b = true → S b = true ∧ Feas (pbS fits sup need fun c => cutF (fun S => Feas (pbS fits sup need S)) r S c && decide (c ≠ b)))
 | 0, S, _, _, hn, hp => ⟨hn, fun b hb h => ⟨h, hp b (Nat.zero_le _) hb h⟩⟩
 | r + 1, S, hr, hall, hn, hp => by
  rw [cutF]
  have hSr := hall r (by omega)
  by_cases hP : Feas (pbS fits sup need fun b => S b && decide (b ≠ r))
  ·have e : (fun b => if b = r then @decide (Feas (pbS fits sup need fun b => S b && decide (b ≠ r))) (Classical.propDecidable _) else S b) = S := by
    funext b
    by_cases hb : b = r
    ·subst hb; rw [if_pos rfl, hSr]; exact @decide_eq_true _ (Classical.propDecidable _) hP
    ·rw [if_neg hb]
   have e' : cutF (fun S => Feas (pbS fits sup need S)) r (fun b => if b = r then @decide (Feas (pbS fits sup need fun b => S b && decide (b ≠ r))) (Classical.propDecidable _) else S b) = cutF (fun S => Feas (pbS fits sup need S)) r S := by rw [e]
   show _ ∧ _
   have ih := cutF_props hv r S (by omega) (fun b hb => hall b (by omega)) hn (fun b h1 h2 h3 => by
    by_cases hb : b = r
    ·subst hb; exact hP
    ·exact hp b (by omega) h2 h3)
   rw [← e'] at ih
   exact ih
  ·have e : (fun b => if b = r then @decide (Feas (pbS fits sup need fun b => S b && decide (b ≠ r))) (Classical.propDecidable _) else S b) = fun b => S b && decide (b ≠ r) := by
    funext b
    by_cases hb : b = r
    ·subst hb; rw [if_pos rfl]; exact (@decide_eq_false _ (Classical.propDecidable _) hP).trans (by simp)
    ·rw [if_neg hb]; simp [hb]
   have e' : cutF (fun S => Feas (pbS fits sup need S)) r (fun b => if b = r then @decide (Feas (pbS fits sup need fun b => S b && decide (b ≠ r))) (Classical.propDecidable _) else S b) = cutF (fun S => Feas (pbS fits sup need S)) r (fun b => S b && decide (b ≠ r)) := by rw [e]
   have ih := cutF_props hv r (fun b => S b && decide (b ≠ r)) (by omega) (fun b hb => by rw [hall b (by omega)]; simp; omega) hP (fun b h1 h2 h3 => by
    simp at h3
    refine feasS_mono hv (fun c _ hc => ?_) (hp b (by omega) h2 h3.1)
    simp at hc ⊢
    exact ⟨hc.1.1, hc.2⟩)
   rw [← e'] at ih
   refine ⟨ih.1, fun b hb h => ?_⟩
   have := ih.2 b hb h
   refine ⟨?_, this.2⟩
   have h2 := this.1
   simp at h2
   exact h2.1
theorem cutFin_props {fits : List (List Bool)} {sup need : List Int} (hv : Vld fits sup need) (hn : ¬ Feas (pbOf fits sup need)) : ¬ Feas (pbS fits sup need (cutFin fits sup need)) ∧ ∀ b, b < need.length → cutFin fits sup need b = true → Feas (pbS fits sup need fun c => cutFin fits sup need c && decide (c ≠ b)) := by
 have h := cutF_props hv need.length (fun b => decide (b < need.length)) (Nat.le_refl _) (fun b hb => by simpa using hb) (fun hf => hn (by
  rw [feas_iff hv.sup0 hv.need0]
  rw [feasS_iff hv] at hf
  intro D
  rw [← lackS_eq (fun b => decide (b < need.length)) D (fun b hb _ => by simpa using hb)]
  exact hf D)) (fun b h1 h2 => by omega)
 exact ⟨h.1, fun b hb hc => (h.2 b hb hc).2⟩
end Go.Proofs.Ytcadnjmcmegpjaa

/-
 Matching, plain: what Cut and Check say of what Flow answers; problems with more.
 Conditions: none.
-/
namespace Go.Proofs.Ytcadnjmcmegpjaa
open Go Bf
theorem AscTo.lt {m : Nat} {l : List Int} (h : AscTo m l l.length) : ∀ (i : Nat) (x : Int), l[i]? = some x → ∀ j y, j < i → l[j]? = some y → y < x
 | 0, _, _, j, _, hj, _ => by omega
 | i + 1, x, hx, j, y, hj, hy => by
  have hl := (List.getElem?_eq_some_iff.1 hx).1
  obtain ⟨z, hz⟩ := get_of_lt (xs := l) (i := i) (by omega)
  have h1 := (h (i + 1) x hl hx).2.2 z (by omega) (by simpa using hz)
  by_cases e : j = i
  ·subst e; rw [hz] at hy; cases hy; exact h1
  ·have := h.lt i z hz j y (by omega) hy
   omega
end Go.Proofs.Ytcadnjmcmegpjaa

/-
 Refusals: some of the requests of a list, plain.
 Conditions: none.
-/
namespace Go.Proofs.Ytcadnjmcmegpjaa
open Go Bf
theorem keep_mapf {α β : Type} (o : Nat → Bool) (f : α → β) : ∀ (l : List α) (i : Nat), keep o (l.map f) i = (keep o l i).map f
 | [], _ => rfl
 | x :: l, i => by
  rw [List.map_cons, keep, keep]
  split
  ·exact keep_mapf o f l (i + 1)
  ·rw [keep_mapf o f l (i + 1), List.map_cons]
def rk (S : Nat → Bool) (j : Nat) : Nat := (idx S j).length
theorem idx_prefix {S : Nat → Bool} : ∀ {m n : Nat}, m ≤ n → ∃ t, idx S n = idx S m ++ t
 | m, 0, h => ⟨[], by rw [show m = 0 by omega]; simp⟩
 | m, n + 1, h => by
  by_cases e : m = n + 1
  ·exact ⟨[], by rw [e]; simp⟩
  ·obtain ⟨t, ht⟩ := idx_prefix (S := S) (show m ≤ n by omega)
   exact ⟨t ++ if S n = true then [n] else [], by rw [idx_succ, ht, List.append_assoc]⟩
theorem idx_rk {S : Nat → Bool} {m j : Nat} (hj : j < m) (hS : S j = true) : (idx S m)[rk S j]? = some j := by
 obtain ⟨t, ht⟩ := idx_prefix (S := S) (show j + 1 ≤ m by omega)
 rw [ht, idx_succ, if_pos hS, List.append_assoc, rk, List.getElem?_append_right (Nat.le_refl _)]
 simp
theorem rk_idx {S : Nat → Bool} {m i b : Nat} (h : (idx S m)[i]? = some b) : rk S b = i := by
 obtain ⟨hb, hS⟩ := idx_mem h
 have h2 := idx_rk hb hS
 have hn : (idx S m).Nodup := List.nodup_range.filter _
 obtain ⟨l1, e1⟩ := List.getElem?_eq_some_iff.1 h
 obtain ⟨l2, e2⟩ := List.getElem?_eq_some_iff.1 h2
 exact (List.getElem_inj hn).1 (e2.trans e1.symm)
theorem keep_at {α : Type} {S : Nat → Bool} {l : List α} {j : Nat} (hj : j < l.length) (hS : S j = true) : (keep (fun b => !S b) l 0)[rk S j]? = l[j]? := by
 obtain ⟨x, hx⟩ := get_of_lt hj
 rw [keep_map _ x]
 simp only [Bool.not_not]
 show (List.map (fun i => l.getD i x) (idx S l.length))[rk S j]? = _
 rw [List.getElem?_map, idx_rk hj hS, hx]
 simp [List.getD_eq_getElem?_getD, hx]
theorem feasW_keep {w : Wd} {known : Int} {s : List Sp} {r : List Rq} (ht : okT s r) (S : Nat → Bool) : Feas (pbW w known s (keep (fun b => !S b) r 0)) ↔ Feas (pbS (fitsT w known s r) (amS s) (amR r) S) := by
 have hl : (keep (fun b => !S b) r 0).length = (idx S r.length).length := by
  rw [keep_len_idx]; simp
 constructor
 ·intro h
  obtain ⟨a, ha⟩ := feas_part.1 h
  have hm : (pbW w known s (keep (fun b => !S b) r 0)).m = (idx S r.length).length := by simp [pbW, pbOf, amR, hl]
  have hn : (pbW w known s (keep (fun b => !S b) r 0)).n = s.length := by simp [pbW, pbOf, amS]
  have hrk : ∀ j, j < r.length → S j = true → rk S j < (idx S r.length).length := fun j hj hS => (List.getElem?_eq_some_iff.1 (idx_rk hj hS)).1
  refine feas_part.2 ⟨fun k j => if S j = true then a k (rk S j) else 0, fun k hk j hj => ?_, fun k hk j hj hne => ?_, fun k hk => ?_, fun j hj => ?_⟩
  all_goals simp only [pbS, amS, amR, List.length_map] at *
  ·split
   ·rename_i hS
    exact ha.nn k (by omega) _ (by rw [hm]; exact hrk j hj hS)
   ·exact Int.le_refl _
  ·split at hne
   ·rename_i hS
    have hok := ha.ok k (by omega) _ (by rw [hm]; exact hrk j hj hS) hne
    obtain ⟨x, hx⟩ := get_of_lt hk
    obtain ⟨y, hy⟩ := get_of_lt hj
    have e := keep_at hj hS
    rw [hy] at e
    simp only [pbW, pbOf] at hok
    rw [fitsT_get hx e] at hok
    rw [fitsT_get hx hy]
    exact hok
   ·exact absurd rfl hne
  ·rw [idx_sum S (fun j => a k (rk S j))]
   have := ha.row k (by omega)
   rw [hm] at this
   refine Int.le_trans (Int.le_of_eq (sumN_congr fun i hi => ?_)) this
   obtain ⟨b, hb⟩ := get_of_lt hi
   rw [getD_of hb, rk_idx hb]
  ·by_cases hS : S j = true
   ·simp only [hS, if_true]
    have := ha.col _ (by rw [hm]; exact hrk j hj hS)
    rw [hn] at this
    rw [this]
    simp only [pbW, pbOf, amR, List.getD_eq_getElem?_getD, List.getElem?_map, keep_at hj hS]
   ·simp only [hS, if_false, Bool.false_eq_true]
    exact sumN_zero fun _ _ => rfl
 ·intro h
  have := feas_keep (okT_vld (w := w) (known := known) ht) (fun b => !S b) (by simpa using h)
  unfold pbW
  have e1 : (fitsT w known s r).map (fun row => keep (fun b => !S b) row 0) = fitsT w known s (keep (fun b => !S b) r 0) := by
   unfold fitsT
   rw [List.map_map]
   exact List.map_congr_left fun x _ => keep_mapf _ _ _ _
  have e2 : keep (fun b => !S b) (amR r) 0 = amR (keep (fun b => !S b) r 0) := keep_mapf _ _ _ _
  rw [e1, e2] at this
  exact this
end Go.Proofs.Ytcadnjmcmegpjaa

/-
 Refusals: excluding and without.
 Conditions: none.
-/
namespace Go.Proofs.Ytcadnjmcmegpjaa
open Go Bf
attribute [local irreducible] Tr Exec Stab HasTy Go.Addr.add IntKind.wrap
def kyI (y : Ky) : List Int := [y.1, y.2.1, y.2.2]
theorem kyI_inj {a b : Ky} (h : ints (kyI a) = ints (kyI b)) : a = b := by
 have := ints_inj h
 obtain ⟨a1, a2, a3⟩ := a
 obtain ⟨b1, b2, b3⟩ := b
 simp only [kyI, List.cons.injEq, and_true] at this
 obtain ⟨rfl, rfl, rfl⟩ := this
 rfl
def MapKy (es : List MapEntry) (l : List Ky) : Prop := KeysIn (IntsN 3) es ∧ ∀ y : Ky, valV (ints (kyI y)) es = if y ∈ l then some (.bool true) else none
theorem MapKy.nil : MapKy [] [] := ⟨KeysIn.nil, fun y => by simp [valV, lookV]⟩
theorem MapKy.add {es : List MapEntry} {l : List Ky} (h : MapKy es l) (y : Ky) (cl : Nat) : MapKy (updV (ints (kyI y)) (.bool true) es cl).1 (l ++ [y]) := by
 classical
 refine ⟨updV_keys h.1 ⟨kyI y, rfl, rfl⟩, fun z => ?_⟩
 rw [updV_val, h.2 z]
 by_cases e : z = y
 ·subst e; simp
 ·have : ¬ ints (kyI z) = ints (kyI y) := fun h => e (kyI_inj h)
  simp [this, e]
theorem allOne_head {v : Value} {l : List Value} (h : AllOne (v :: l)) : v.oneCell' = true ∧ AllOne l := by
 cases h with
 | cons h t => exact ⟨h, t⟩
theorem RWd.lit {M : Mem} {ws : List Value} {w : Wd} (h : RWd M ws w) : ∃ u0 u1 u2 u3 u4 u5 u6 u8 u9 A7 c7 A10 c10, ws = [u0, u1, u2, u3, u4, u5, u6, .slice A7 w.swaps.length c7, u8, u9, .slice A10 w.facts.length c10] ∧ (u0.oneCell' = true ∧ u1.oneCell' = true ∧ u2.oneCell' = true ∧ u3.oneCell' = true ∧ u4.oneCell' = true ∧ u5.oneCell' = true ∧ u6.oneCell' = true ∧ u8.oneCell' = true ∧ u9.oneCell' = true) ∧
  SlOf 4 RSw M (.slice A7 w.swaps.length c7) w.swaps ∧ SlOf 8 RFc M (.slice A10 w.facts.length c10) w.facts := by
 obtain ⟨h11, hone, ⟨A7, c7, h7, hsw⟩, A10, c10, h10, hfa⟩ := h
 match ws, h11 with
 | [u0, u1, u2, u3, u4, u5, u6, u7, u8, u9, u10], _ =>
  simp only [nthL, Option.some.injEq] at h7 h10
  subst h7 h10
  obtain ⟨o0, hone⟩ := allOne_head hone
  obtain ⟨o1, hone⟩ := allOne_head hone
  obtain ⟨o2, hone⟩ := allOne_head hone
  obtain ⟨o3, hone⟩ := allOne_head hone
  obtain ⟨o4, hone⟩ := allOne_head hone
  obtain ⟨o5, hone⟩ := allOne_head hone
  obtain ⟨o6, hone⟩ := allOne_head hone
  obtain ⟨-, hone⟩ := allOne_head hone
  obtain ⟨o8, hone⟩ := allOne_head hone
  obtain ⟨o9, hone⟩ := allOne_head hone
  exact ⟨u0, u1, u2, u3, u4, u5, u6, u8, u9, A7, c7, A10, c10, rfl, ⟨o0, o1, o2, o3, o4, o5, o6, o8, o9⟩, hsw, hfa⟩
end Go.Proofs.Ytcadnjmcmegpjaa

/-
 Refusals: Facts, the walk.
 Conditions: none.
-/
namespace Go.Proofs.Ytcadnjmcmegpjaa
open Go Bf
attribute [local irreducible] Tr Exec Stab HasTy Go.Addr.add IntKind.wrap
theorem askE_zero {w : Wd} {k : Bp} {r : Rq} (h : askE w k r = 0) : okB w k ∧ r.no ∉ k.reqs.map (·.no) ∧ okT k.sups (k.reqs ++ [r]) := by
 unfold askE at h
 split at h
 ·cases h
 ·rename_i h1
  have h1 := Classical.not_not.1 h1
  split at h
  ·cases h
  ·rename_i h2
   split at h
   ·cases h
   ·rename_i h3
    rw [not_or] at h3
    exact ⟨h1, h2, (okT_app h1.2.1).2 ⟨Classical.not_not.1 h3.1, by omega⟩⟩
end Go.Proofs.Ytcadnjmcmegpjaa

