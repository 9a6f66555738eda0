/-
  Matching: the contract of most: what is needed but for the greatest lack of a set.
  Conditions: none.
-/
import Derived.Test.YtmioocddmlfboaaM13
namespace Go.Proofs.Ytmioocddmlfboaa
open Go Bf
theorem own_cap {E : World} {n : Nat} {fr : Fr} {D : List Deferred} {M : Mem} {L : List Res} {X : Act → World → Prop} {e sz m c : Nat} (A : Option Addr) {xs : List Value} (hL : Has L (ownS e sz A m c xs)) (k : m ≤ c → (A = none → m = 0) → Tr E ⟨n, fr, D, M, L⟩ X) : Tr E ⟨n, fr, D, M, L⟩ X := fun a w hs => by
  obtain ⟨-, h1, h2⟩ := Row.of_own (hs.own.res _ hL.mem)
  exact k h1 h2 a w hs
attribute [local irreducible] Tr Exec Stab HasTy Go.Addr.add IntKind.wrap
/-- the greatest lack of a set of requests -/
def IsLack (p : Pb) (L : Int) : Prop := (∃ D, lackOf p D = L) ∧ ∀ D, lackOf p D ≤ L
theorem IsLack.unique {p : Pb} {L L' : Int} (h : IsLack p L) (h' : IsLack p L') : L = L' := by
  obtain ⟨⟨D, hD⟩, h1⟩ := h
  obtain ⟨⟨D', hD'⟩, h2⟩ := h'
  have := h1 D'
  have := h2 D
  omega
theorem Filled.isLack {fits : List (List Bool)} {sup need : List Int} {rws : List (Nat × List Int)} {lack : List Int} (h : Filled fits sup need rws lack) : IsLack (pbOf fits sup need) (sumN need.length fun b => lack.getD b 0) := by
  obtain ⟨h1, X, h2, h3, h4⟩ := h
  exact ⟨⟨_, h1.lack_eq h2 h3 h4⟩, fun D => h1.lack_le_all D⟩
theorem begin_shape {sup need : List Int} {rws : List (Nat × List Int)} (h : rws.map (·.2) = sup.map (row0 need.length)) : Shape sup.length need.length (rws.map (·.1)) rws := by
  refine ⟨by simpa using congrArg List.length h, rfl, fun x hx => ?_⟩
  have : x.2 ∈ sup.map (row0 need.length) := by rw [← h]; exact List.mem_map_of_mem hx
  obtain ⟨y, _, hy⟩ := List.mem_map.1 this
  rw [← hy]
  simp [row0]
theorem begin_amt {sup need : List Int} {rws : List (Nat × List Int)} (h : rws.map (·.2) = sup.map (row0 need.length)) {k : Nat} (hk : k < sup.length) (b : Nat) : amt rws k b = if b = need.length then sup.getD k 0 else 0 := by
  obtain ⟨x, hx⟩ := get_of_lt hk
  unfold amt
  rw [h, getD_of (d := []) (show (sup.map (row0 need.length))[k]? = some (row0 need.length x) by simp [hx]), getD_of hx, List.getD_eq_getElem?_getD]
  unfold row0
  by_cases e : b < need.length
  · rw [List.getElem?_append_left (by simpa using e), if_neg (by omega)]
    simp [e]
  · rw [List.getElem?_append_right (by simp; omega)]
    by_cases e2 : b = need.length
    · subst e2; simp
    · rw [if_neg e2, List.getElem?_eq_none (by simp; omega)]; rfl
theorem begin_flow {fits : List (List Bool)} {sup need : List Int} (hv : Vld fits sup need) {rws : List (Nat × List Int)} (h : rws.map (·.2) = sup.map (row0 need.length)) : Bf.Flow (pbOf fits sup need) (amt rws) (fun b => need.getD b 0) := by
  refine ⟨⟨fun k hk b hb => ?_, fun k hk b hb h0 => ?_, fun k hk => ?_⟩, fun b hb => ?_, fun b hb => (getD_rng hv.rn b).1⟩
  · rw [begin_amt h hk]
    split
    · exact (getD_rng hv.rs k).1
    · exact Int.le_refl _
  · rw [begin_amt h hk, if_neg (show ¬ b = need.length from Nat.ne_of_lt hb)] at h0
    exact absurd rfl h0
  · show sumN (need.length + 1) (amt rws k) = sup.getD k 0
    rw [sumN_congr (fun b _ => begin_amt h hk b)]
    exact sumN_one _ (by omega)
  · show need.getD b 0 + colOf (pbOf fits sup need) (amt rws) b = need.getD b 0
    have : colOf (pbOf fits sup need) (amt rws) b = 0 := sumN_zero fun k hk => by rw [begin_amt h hk, if_neg (show ¬ b = need.length from Nat.ne_of_lt hb)]
    omega
theorem lack_rng {fits : List (List Bool)} {sup need : List Int} (hv : Vld fits sup need) {rws : List (Nat × List Int)} {lack : List Int} (hl : lack.length = need.length) (h : Bf.Flow (pbOf fits sup need) (amt rws) (fun b => lack.getD b 0)) : ∀ x ∈ lack, 0 ≤ x ∧ x ≤ 1048576 := by
  intro x hx
  obtain ⟨b, hb⟩ := List.mem_iff_getElem?.1 hx
  have hb1 := (List.getElem?_eq_some_iff.1 hb).1
  rw [hl] at hb1
  have h1 := h.lk b hb1
  have h2 := h.col b hb1
  have h3 : 0 ≤ colOf (pbOf fits sup need) (amt rws) b := sumN_nonneg fun k hk => h.nn k hk b (by show b ≤ need.length; omega)
  have h4 := (getD_rng hv.rn b).2
  have h5 : lack.getD b 0 + colOf (pbOf fits sup need) (amt rws) b = need.getD b 0 := h2
  rw [getD_of hb] at h1 h5
  omega
theorem small_of {l : List Int} (hl : l.length ≤ 64) (h : ∀ x ∈ l, 0 ≤ x ∧ x ≤ 1048576) : Small l := ⟨by omega, fun x hx => by have := h x hx; omega⟩
theorem sum_rng {l : List Int} (hl : l.length ≤ 64) (h : ∀ x ∈ l, 0 ≤ x ∧ x ≤ 1048576) : 0 ≤ l.sum ∧ l.sum ≤ 67108864 := by
  rw [sumN_list]
  have := sum_small (n := l.length) (f := fun i => l.getD i 0) (fun i _ => getD_rng h i)
  omega
set_option maxHeartbeats 4000000 in
set_option maxRecDepth 20000 in
theorem most_fn (M : Mem) (A0 A1 A2 : Option Addr) (c0 c1 c2 : Nat) (fits : List (List Bool)) (sup need : List Int) (hf : Fits2 M (.slice A0 fits.length c0) fits) (hs : Ints M (.slice A1 sup.length c1) sup) (hn : Ints M (.slice A2 need.length c2) need) (hv : Vld fits sup need) :
    Fn0 Try.prog 38 [.slice A0 fits.length c0, .slice A1 sup.length c1, .slice A2 need.length c2] M (fun r M' => (∃ L, r = .int .i64 (need.sum - L) ∧ IsLack (pbOf fits sup need) L) ∧ M = M') := by
  have l1 := hv.ls
  have l2 := hv.ln
  refine Fn.intro Try.func38 rfl rfl Try.ntmps38 rfl fun E F => ?_
  repeat (first | ((with_reducible refine Tr.step rfl ?_); (first | ((with_reducible refine Knd.move ?_); (refine Exec.stab rfl (Stab.move rfl) rfl ?_)) | ((with_reducible refine Knd.assign ?_); (refine Exec.stab rfl (Stab.assign rfl) rfl ?_)))) | (with_reducible refine Tr.next ?_) | (with_reducible refine Tr.seq ?_) | (with_reducible refine Tr.region ?_) | (with_reducible refine Tr.nil ?_))
  ((refine Tr.step rfl ?_))
  refine Exec.call (A := []) rfl (begin_fn M A0 fits.length c0 A1 A2 c1 c2 sup need hs hn hv.ls hv.ln) (List.Perm.refl _) rfl ?_
  rintro _ _ _ _ ⟨o, rws, rfl, ho, ho1, ho2, hrw, rfl, rfl⟩
  repeat (first | ((with_reducible refine Tr.step rfl ?_); (first | ((with_reducible refine Knd.move ?_); (refine Exec.stab rfl (Stab.move rfl) rfl ?_)) | ((with_reducible refine Knd.assign ?_); (refine Exec.stab rfl (Stab.assign rfl) rfl ?_)))) | (with_reducible refine Tr.next ?_) | (with_reducible refine Tr.seq ?_) | (with_reducible refine Tr.region ?_) | (with_reducible refine Tr.nil ?_))
  ((refine Tr.step rfl ?_))
  refine Exec.call (A := stL o (need.length + 1) rws need (List.replicate 64 0) (List.replicate 65 0)) rfl (fill_fn M o A0 c0 fits sup need hv hf ho ho1 ho2 _ rws need _ _ (begin_shape hrw) rfl (begin_flow hv hrw) (by simp) (by simp)) (List.Perm.refl _) rfl ?_
  rintro _ _ _ _ ⟨rfl, rws', lack, tk, gv, rfl, hsh, hll, ltk, lgv, hfi⟩
  have hlk := lack_rng hv hll hfi.1
  have hL := hfi.isLack
  rw [← hll, ← sumN_list] at hL
  have r1 := sum_rng (by omega) hlk
  have r2 := sum_rng l2 hv.rn
  have hcn := hn.cap
  simp only [stL, List.cons_append, List.nil_append]
  repeat (first | (with_reducible refine Tr.next ?_) | (with_reducible refine Tr.seq ?_) | (with_reducible refine Tr.nil ?_))
  refine own_cap o.Al (by repeat (first | exact Has.here | apply Has.there)) (fun hA1 hA2 => ?_)
  refine Tr.give (r := ownS 23 1 _ _ _ _) (by repeat (first | exact Del.here | apply Del.there)) ?_
  refine Tr.give (r := rowsR _) (by repeat (first | exact Del.here | apply Del.there)) ?_
  refine Tr.front (x := ownS 3 1 _ _ _ _) (by repeat (first | exact Del.here | apply Del.there)) ?_
  (((apply Tr.draw); (kernel_rfl)); (refine TrA.take 0 (by kernel_rfl) rfl (by kernel_rfl) (by first | exact fun _ _ _ h => h | exact fun _ _ _ h => nomatch h.1) (by exact fun _ h => h) rfl (by first | exact Stab.move rfl) rfl rfl ?_); (refine TrA.take 2 (by kernel_rfl) rfl (by kernel_rfl) (by first | exact fun _ _ _ h => h | exact fun _ _ _ h => nomatch h.1) (by exact fun _ h => h) rfl (by first | exact Stab.move rfl) rfl rfl ?_); (refine TrA.take 3 (by kernel_rfl) rfl (by kernel_rfl) (by first | exact fun _ _ _ h => h | exact fun _ _ _ h => nomatch h.1) (by exact fun _ h => h) rfl (by first | exact Stab.nilCheck rfl) rfl rfl ?_); (refine TrA.take 4 (by kernel_rfl) rfl (by kernel_rfl) (by first | exact fun _ _ _ h => h | exact fun _ _ _ h => nomatch h.1) (by exact fun _ h => h) rfl (by exact Stab.fieldZ rfl (tysOk.get rfl) rfl rfl (tysOk.get rfl) rfl) rfl rfl ?_); (refine TrA.take 5 (by kernel_rfl) rfl (by kernel_rfl) (by first | exact fun _ _ _ h => h | exact fun _ _ _ h => nomatch h.1) (by exact fun _ h => h) rfl (by exact Stab.load rfl (tysOk.get rfl) rfl (by repeat (first | exact Has.here | apply Has.there)) rfl) rfl rfl ?_); (refine TrA.eff 1 rfl (by kernel_rfl) (by first | exact .inl rfl | exact .inr ⟨_, _, _, rfl, rfl, rfl⟩) ?_))
  refine Exec.call (A := []) rfl (sum_fn M [] A2 c2 need hcn.2.1 (fun h => by
    cases A2 with
    | none => exact absurd (List.eq_nil_of_length_eq_zero (hcn.2.2.2 rfl)) h
    | some a => rfl) (Src.row hn.row) (small_of l2 hv.rn)) (List.Perm.refl _) rfl ?_
  rintro _ _ _ _ ⟨rfl, rfl, rfl⟩
  refine ⟨Mem.le.refl _, (by exact fun _ h => h), ?_⟩
  ((refine TrA.eff 6 rfl (by kernel_rfl) (by first | exact .inl rfl | exact .inr ⟨_, _, _, rfl, rfl, rfl⟩) ?_))
  refine Exec.call (A := [ownS 3 1 o.Al lack.length o.cl (intV lack)]) rfl (sum_fn M [ownS 3 1 o.Al lack.length o.cl (intV lack)] o.Al o.cl lack hA1 (fun h => by
    cases hAl : o.Al with
    | none => exact absurd (List.eq_nil_of_length_eq_zero (hA2 hAl)) h
    | some a => rfl) (Src.own .here) (small_of (by omega) hlk)) (List.Perm.refl _) rfl ?_
  rintro _ _ _ _ ⟨rfl, rfl, rfl⟩
  refine ⟨Mem.le.refl _, (by exact fun _ h => h), ?_⟩
  ((refine TrA.take 7 (by kernel_rfl) rfl (by kernel_rfl) (by first | exact fun _ _ _ h => h | exact fun _ _ _ h => nomatch h.1) (by exact fun _ h => h) rfl (by exact Stab.subi rfl rfl (by omega)) rfl rfl ?_); (refine TrA.take 8 (by kernel_rfl) rfl (by kernel_rfl) (by first | exact fun _ _ _ h => h | exact fun _ _ _ h => nomatch h.1) (by exact fun _ h => h) rfl (by first | exact Stab.assign rfl) rfl rfl ?_); (refine TrA.done (by kernel_rfl) ?_))
  repeat (first | (with_reducible refine Tr.next ?_) | (with_reducible refine Tr.ret ?_))
  (refine Tr.done (by first | exact .inl rfl | exact .inr rfl) rfl (by repeat (first | exact RVs.nil | (apply RVs.cons; (exact RV.tmp rfl)))) (by first | exact Mem.le.refl _ | assumption) (by exact ⟨[_, _], rfl⟩) ⟨rfl, ?_⟩)
  exact ⟨⟨_, rfl, hL⟩, rfl⟩
end Go.Proofs.Ytmioocddmlfboaa
