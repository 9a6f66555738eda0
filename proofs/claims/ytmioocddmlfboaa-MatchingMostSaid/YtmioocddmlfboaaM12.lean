/-
  Matching: the contract of fill: what is given at the end is as much as possible.
  Conditions: none.
-/
import Derived.Test.YtmioocddmlfboaaM11
namespace Go.Proofs.Ytmioocddmlfboaa
open Go Bf
attribute [local irreducible] Tr Exec Stab HasTy Go.Addr.add IntKind.wrap
theorem srv_of {fits : List (List Bool)} {sup need : List Int} {k b : Nat} (hv : Vld fits sup need) (hk : k < sup.length) : srvB fits need.length k b = true ↔ (pbOf fits sup need).srv k b := by
  have hl := hv.lf
  obtain ⟨row, hr⟩ := get_of_lt (xs := fits) (i := k) (by omega)
  have hrl := hv.rows row (List.mem_of_getElem? hr)
  simp only [srvB, Bool.or_eq_true, decide_eq_true_eq]
  refine ⟨fun h => ?_, fun h => ?_⟩
  · rcases h with h | h
    · exact .inl h
    · by_cases e : b = need.length
      · exact .inl e
      · refine .inr ⟨?_, h⟩
        rw [getD_of (d := []) hr] at h
        by_cases hb : b < row.length
        · show b < need.length; omega
        · rw [List.getD_eq_getElem?_getD, List.getElem?_eq_none (by omega)] at h
          cases h
  · rcases h with h | ⟨_, h⟩
    · exact .inl h
    · exact .inr h
theorem Core.lens {rws : List (Nat × List Int)} {fits : List (List Bool)} {R r1 a : Nat} {tk gv : List Int} {ord : List Nat} (h : Core rws fits R r1 a tk gv ord) : tk.length = 64 ∧ gv.length = 65 := ⟨h.ltk, h.lgv⟩
/-- what the rows are between -/
theorem Rows.bounds {fits : List (List Bool)} {sup need : List Int} (hv : Vld fits sup need) {rws : List (Nat × List Int)} {bs : List Nat} (hsh : Shape sup.length need.length bs rws) (hr : Bf.Rows (pbOf fits sup need) (amt rws)) : ∀ x ∈ rws, ∀ v ∈ x.2, 0 ≤ v ∧ v ≤ 1048576 := by
  intro x hx v hvx
  obtain ⟨k, hk⟩ := List.mem_iff_getElem?.1 hx
  obtain ⟨b, hb⟩ := List.mem_iff_getElem?.1 hvx
  have hk1 := (List.getElem?_eq_some_iff.1 hk).1
  have hb1 := (List.getElem?_eq_some_iff.1 hb).1
  rw [hsh.n] at hk1
  rw [hsh.row x hx] at hb1
  have hav : amt rws k b = v := by rw [amt_of hk, getD_of hb]
  have h1 := hr.nn k hk1 b (by show b ≤ need.length; omega)
  have h2 := hr.row k hk1
  have h3 := sumN_le_of_mem (f := amt rws k) (n := need.length + 1) (k := b) (fun i hi => hr.nn k hk1 i (by show i ≤ need.length; omega)) hb1
  have h4 := (getD_rng hv.rs k).2
  have h5 : sumN (need.length + 1) (amt rws k) = sup.getD k 0 := h2
  rw [h5] at h3
  omega
/-- a way that was found, moved along -/
theorem Found.move {fits : List (List Bool)} {sup need : List Int} (hv : Vld fits sup need) {rws : List (Nat × List Int)} {bs : List Nat} (hsh : Shape sup.length need.length bs rws) (hr : Bf.Rows (pbOf fits sup need) (amt rws)) {r1 a to : Nat} {G : Nat → Bool} {tk gv : List Int} (h : Found rws fits need.length r1 a G tk gv to true) :
    to ≤ need.length ∧ to ≠ a ∧ G to = true ∧ gv.getD a 0 = -2 ∧ tk.length = 64 ∧ gv.length = 65 ∧
    ∃ P, Path tk gv a to P ∧ (P.map (·.2.1)).Nodup ∧ (∀ e ∈ P, e.1 ≤ need.length ∧ e.2.1 < rws.length ∧ e.2.2 ≤ need.length ∧ e.2.2 ≠ e.1) ∧ (∀ k, k < r1 → k ∉ P.map (·.2.1)) ∧
      ∀ n, 0 < n → 0 < minL rws n P ∧ minL rws n P ≤ n ∧ Shape sup.length need.length bs (movesR (minL rws n P) rws P) ∧ Bf.Rows (pbOf fits sup need) (amt (movesR (minL rws n P) rws P)) ∧ ∀ c, colOf (pbOf fits sup need) (amt (movesR (minL rws n P) rws P)) c = colOf (pbOf fits sup need) (amt rws) c + ((if c = to then minL rws n P else 0) - (if c = a then minL rws n P else 0)) := by
  obtain ⟨ord, hc, h⟩ := h
  rcases h with ⟨-, hto, hta, hG⟩ | ⟨h, -⟩
  rotate_left
  · cases h
  obtain ⟨i, hi⟩ := List.mem_iff_getElem?.1 hto
  obtain ⟨P, p1, p2, p3⟩ := hc.path i to hi
  have hE : ∀ e ∈ P, e.1 ≤ need.length ∧ e.2.1 < rws.length ∧ e.2.2 ≤ need.length ∧ e.2.2 ≠ e.1 := fun e he => by
    have := (p2 e he).1
    exact ⟨this.b, this.k, this.x, this.ne⟩
  refine ⟨hc.le _ hto, hta, hG, hc.hd.2, hc.ltk, hc.lgv, P, p1, p3, hE, fun k hk hm => ?_, fun n hn => ?_⟩
  · obtain ⟨e, he, rfl⟩ := List.mem_map.1 hm
    have := (p2 e he).1.r
    omega
  · have hpos : 0 < minL rws n P := by
      have := minL_pos rws (c := 1) P n (by omega) fun e he => by
        have h1 := (p2 e he).1
        have h2 := hr.nn e.2.1 (by have := h1.k; rw [hsh.n] at this; exact this) e.2.2 h1.x
        have h3 := h1.am
        omega
      omega
    have hm := moves_ok (p := pbOf fits sup need) (n := sup.length) (R := need.length) (bs := bs) (v := minL rws n P) rfl rfl (by omega) p1 hsh p3 (fun e he => by
      have h1 := (p2 e he).1
      have h2 : e.2.1 < sup.length := by have := h1.k; rw [hsh.n] at this; exact this
      exact ⟨h2, h1.x, (srv_of hv h2).1 h1.sv, h1.ne, (minL_le rws P n).2 e he⟩) hr
    exact ⟨hpos, (minL_le rws P n).1, Shape.moves _ hsh (fun e he => by have := (hE e he).2.1; rw [hsh.n] at this; exact this), hm⟩
/-- where nothing was found, what is reached is closed -/
theorem Found.closed {fits : List (List Bool)} {sup need : List Int} (hv : Vld fits sup need) {rws : List (Nat × List Int)} {bs : List Nat} (hsh : Shape sup.length need.length bs rws) {r1 a to : Nat} {G : Nat → Bool} {tk gv : List Int} (h : Found rws fits need.length r1 a G tk gv to false) :
    ∃ X : Nat → Bool, Closed' (pbOf fits sup need) (amt rws) (fun k => r1 ≤ k) X ∧ X a = true ∧ (∀ b, X b = true → b ≠ a → G b = false) := by
  obtain ⟨ord, hc, h⟩ := h
  rcases h with ⟨h, -⟩ | ⟨-, h1, h2⟩
  · cases h
  refine ⟨fun b => decide (b ∈ ord), fun k hk hf x hx hX h0 b hb => ?_, by simpa using List.mem_of_getElem? hc.hd.1, fun b hX hb => h1 b (by simpa using hX) hb⟩
  have := h2 x (by simpa using hX) k hf (by rw [hsh.n]; exact hk) h0 b (Bf.Pb.srv_le hb) ((srv_of hv hk).2 hb)
  simpa using this
/-- what fill has at the end -/
def Filled (fits : List (List Bool)) (sup need : List Int) (rws : List (Nat × List Int)) (lack : List Int) : Prop :=
  Bf.Flow (pbOf fits sup need) (amt rws) (fun b => lack.getD b 0) ∧ ∃ X : Nat → Bool, Closed' (pbOf fits sup need) (amt rws) (fun _ => True) X ∧ X need.length = true ∧ ∀ b, b < need.length → X b = true → lack.getD b 0 = 0
theorem Found.filled {fits : List (List Bool)} {sup need : List Int} (hv : Vld fits sup need) {rws : List (Nat × List Int)} {bs : List Nat} (hsh : Shape sup.length need.length bs rws) {lack : List Int} (hll : lack.length = need.length) (hfl : Bf.Flow (pbOf fits sup need) (amt rws) (fun b => lack.getD b 0)) {to : Nat} {tk gv : List Int} (h : Found rws fits need.length 0 need.length (lacksB lack) tk gv to false) : Filled fits sup need rws lack := by
  obtain ⟨X, h1, h2, h3⟩ := h.closed hv hsh
  refine ⟨hfl, X, fun k hk _ => h1 k hk (Nat.zero_le _), h2, fun b hb hX => ?_⟩
  have := h3 b hX (by omega)
  have h0 := hfl.lk b hb
  simp only [lacksB, hll, hb, decide_true, Bool.true_and, decide_eq_false_iff_not] at this
  omega
theorem Found.step {fits : List (List Bool)} {sup need : List Int} (hv : Vld fits sup need) {rws rws' : List (Nat × List Int)} {lack : List Int} (hll : lack.length = need.length) (hfl : Bf.Flow (pbOf fits sup need) (amt rws) (fun b => lack.getD b 0)) {to : Nat} {v : Int} (hto : to < need.length) (hv0 : 0 < v) (hvl : v ≤ lack.getD to 0)
    (hr : Bf.Rows (pbOf fits sup need) (amt rws')) (hc : ∀ c, colOf (pbOf fits sup need) (amt rws') c = colOf (pbOf fits sup need) (amt rws) c + ((if c = to then v else 0) - (if c = need.length then v else 0))) :
    Bf.Flow (pbOf fits sup need) (amt rws') (fun b => (lack.set to (lack.getD to 0 - v)).getD b 0) ∧ sumN need.length (fun b => (lack.set to (lack.getD to 0 - v)).getD b 0) = sumN need.length (fun b => lack.getD b 0) - v := by
  refine ⟨⟨hr, fun b hb => ?_, fun b hb => ?_⟩, ?_⟩
  · have h1 := hfl.col b hb
    have hbn : b ≠ need.length := Nat.ne_of_lt hb
    rw [hc, if_neg hbn]
    by_cases e : b = to
    · subst e
      rw [getD_set_self' (by omega), if_pos rfl]; omega
    · rw [getD_set_ne' (Ne.symm e), if_neg e]; omega
  · by_cases e : b = to
    · subst e
      rw [getD_set_self' (by omega)]; omega
    · rw [getD_set_ne' (Ne.symm e)]; exact hfl.lk b hb
  · rw [sumN_upd (f := fun b => lack.getD b 0) (k := to) hto (fun i hi => getD_set_ne' (Ne.symm hi)), getD_set_self' (by omega)]
    omega
set_option maxHeartbeats 8000000 in
set_option maxRecDepth 20000 in
theorem fill_fn (M : Mem) (o : Loc) (A0 : Option Addr) (c0 : Nat) (fits : List (List Bool)) (sup need : List Int) (hv : Vld fits sup need) (hf : Fits2 M (.slice A0 fits.length c0) fits) (ho : o.fs = .slice A0 fits.length c0) (ho1 : o.cm ≤ 9223372036854775807) (ho2 : o.cl ≤ 9223372036854775807) (bs : List Nat)
    (rws : List (Nat × List Int)) (lack tk gv : List Int) (hsh : Shape sup.length need.length bs rws) (hll : lack.length = need.length) (hfl : Bf.Flow (pbOf fits sup need) (amt rws) (fun b => lack.getD b 0)) (ltk : tk.length = 64) (lgv : gv.length = 65) :
    Bf.Fn Try.prog 30 [.pointer (some ⟨o.sb, 0, none⟩)] M (stL o (need.length + 1) rws lack tk gv)
      (fun _ M' A' => M = M' ∧ ∃ rws' lack' tk' gv', A' = stL o (need.length + 1) rws' lack' tk' gv' ∧ Shape sup.length need.length bs rws' ∧ lack'.length = need.length ∧ tk'.length = 64 ∧ gv'.length = 65 ∧ Filled fits sup need rws' lack') := by
  have l1 := hv.ls
  have l2 := hv.ln
  refine Fn.intro Try.func30 rfl rfl Try.ntmps30 rfl fun E F => ?_
  simp only [stL, List.cons_append, List.nil_append]
  rw [hll]
  repeat (first | ((with_reducible refine Tr.step rfl ?_); (first | ((with_reducible refine Knd.assign ?_); (refine Exec.stab rfl (Stab.assign rfl) rfl ?_)) | ((with_reducible refine Knd.load ?_); ((refine Exec.stab rfl (Stab.load rfl (tysOk.get rfl) rfl (by repeat (first | exact Has.here | apply Has.there)) rfl) rfl ?_))) | ((with_reducible refine Knd.fieldAddr ?_); ((refine Exec.stab rfl (Stab.fieldZ rfl (tysOk.get rfl) rfl rfl (tysOk.get rfl) rfl) rfl ?_))) | ((with_reducible refine Knd.len ?_); ((refine Exec.stab rfl (Stab.len rfl (tysOk.get rfl) rfl) rfl ?_))) | ((with_reducible refine Knd.nilCheck ?_); (refine Exec.stab rfl (Stab.nilCheck rfl) rfl ?_)) | ((with_reducible refine Knd.makeFunc ?_); (refine Exec.stab rfl (Stab.makeFunc rfl rfl) rfl ?_)) | ((with_reducible refine Knd.store ?_); ((refine Exec.store rfl rfl (tysOk.get rfl) rfl (by first | rfl | assumption) (by repeat (first | exact Upd.here | apply Upd.there)) (by repeat (first | exact SetL.z | apply SetL.s)) ?_))) | ((with_reducible refine Knd.box ?_); (first | (refine Exec.box rfl rfl (fun b => ?_)) | (refine Exec.box1 rfl (by first | rfl | assumption) rfl (fun b => ?_)))) | ((with_reducible refine Knd.alloc ?_); (first | (refine Exec.alloc (tysOk.get rfl) rfl rfl (fun b => ?_)) | (refine Exec.alloc1 (tysOk.get rfl) rfl rfl rfl (fun b => ?_)))))) | (with_reducible refine Tr.next ?_) | (with_reducible refine Tr.seq ?_) | (with_reducible refine Tr.region ?_) | (with_reducible refine Tr.nil ?_) | (with_reducible refine Tr.block ?_))
  generalize b = rb
  rename_i sp
  refine Tr.front (x := ownS 3 1 _ _ _ _) (by repeat (first | exact Del.here | apply Del.there)) ?_
  refine Tr.front (x := rowsR _) (by repeat (first | exact Del.here | apply Del.there)) ?_
  refine Tr.front (x := ownS 23 1 _ _ _ _) (by repeat (first | exact Del.here | apply Del.there)) ?_
  refine Tr.front (x := box o.sb 56 _) (by repeat (first | exact Del.here | apply Del.there)) ?_
  refine Tr.loop (α := List (Nat × List Int) × List Int × List Int × List Int) (fun y => ⟨40, [(3, .func (.func 44) #[] #[.pointer (some ⟨rb, 0, none⟩), .pointer (some ⟨sp, 0, none⟩)]), (2, .pointer (some ⟨rb, 0, none⟩)), (1, .pointer (some ⟨sp, 0, none⟩))], [], M, stL o (need.length + 1) y.1 y.2.1 y.2.2.1 y.2.2.2 ++ (box rb 3 [.int .i64 (y.2.1.length : Int)] :: box sp 51 [.pointer (some ⟨o.sb, 0, none⟩)] :: F)⟩)
    (fun y => Shape sup.length need.length bs y.1 ∧ y.2.1.length = need.length ∧ y.2.2.1.length = 64 ∧ y.2.2.2.length = 65 ∧ Bf.Flow (pbOf fits sup need) (amt y.1) (fun b => y.2.1.getD b 0)) (fun y => (sumN need.length (fun b => y.2.1.getD b 0)).toNat) (rws, lack, tk, gv) ⟨hsh, hll, ltk, lgv, hfl⟩ (by simp only [stL, hll, List.cons_append, List.nil_append]; exact (holds_sub (by repeat (first | exact SubFr.nil | refine SubFr.cons rfl ?_)) (by repeat (first | exact DropL.refl | apply DropL.skip)))) (fun y hy => ?_)
  clear hsh hll ltk lgv hfl
  obtain ⟨rws, lack, tk, gv⟩ := y
  obtain ⟨hsh, hll, ltk, lgv, hfl⟩ := hy
  simp only at hsh hll ltk lgv hfl
  dsimp only
  simp only [stL, List.cons_append, List.nil_append]
  have hs := search_fn M o A0 c0 fits hf ho ho1 ho2 rws lack tk gv (by omega) (by rw [hsh.n]; omega) (by rw [hsh.n]; exact hv.lf) (fun r hr => by rw [hll]; exact hv.rows r hr) (fun x hx => by rw [hll]; exact hsh.row x hx) (Rows.bounds hv hsh hfl.toRows) ltk lgv lack.length 0 (Nat.le_refl _) (by omega) 44 [.pointer (some ⟨rb, 0, none⟩), .pointer (some ⟨sp, 0, none⟩)] (lacksB lack) [box rb 3 [.int .i64 (lack.length : Int)], box sp 51 [.pointer (some ⟨o.sb, 0, none⟩)]] (fun tk gv b hb => lacks_fn M o (lack.length + 1) rws lack tk gv (by omega) rb sp b (by omega))
  rw [hll] at hs
  rw [hll]
  repeat (first | ((with_reducible refine Tr.step rfl ?_); (first | ((with_reducible refine Knd.move ?_); (refine Exec.stab rfl (Stab.move rfl) rfl ?_)) | ((with_reducible refine Knd.load ?_); ((refine Exec.stab rfl (Stab.load rfl (tysOk.get rfl) rfl (by repeat (first | exact Has.here | apply Has.there)) rfl) rfl ?_))))) | (with_reducible refine Tr.seq ?_) | (with_reducible refine Tr.region ?_) | (with_reducible refine Tr.block ?_))
  ((refine Tr.step rfl ?_))
  refine Exec.call (A := stL o (need.length + 1) rws lack tk gv ++ [box rb 3 [.int .i64 (need.length : Int)], box sp 51 [.pointer (some ⟨o.sb, 0, none⟩)]]) (F := F) rfl hs (by simp only [stL, hll]; exact List.Perm.refl _) rfl ?_
  rintro _ _ _ _ ⟨to, ok, tk', gv', rfl, rfl, rfl, hF⟩
  simp only [stL, List.cons_append, List.nil_append]
  rw [hll]
  cases ok
  · repeat (first | ((with_reducible refine Tr.step rfl ?_); (first | ((with_reducible refine Knd.move ?_); (refine Exec.stab rfl (Stab.move rfl) rfl ?_)) | ((with_reducible refine Knd.assign ?_); (refine Exec.stab rfl (Stab.assign rfl) rfl ?_)) | ((with_reducible refine Knd.unOp ?_); ((refine Exec.stab rfl (Stab.not rfl) rfl ?_))) | ((with_reducible refine Knd.extract ?_); (refine Exec.stab rfl (Stab.extract rfl rfl) rfl ?_)))) | (with_reducible refine Tr.next ?_) | (with_reducible refine Tr.seq ?_) | (with_reducible refine Tr.region ?_) | (with_reducible refine Tr.nil ?_) | (with_reducible refine Tr.ret ?_) | (with_reducible refine Tr.then_ret ?_) | (with_reducible refine Tr.in_ret ?_) | (refine Tr.cond_bt rfl (by first | (with_reducible rfl) | (with_reducible assumption) | (with_reducible exact Bool.not_true) | (with_reducible exact Bool.not_false)) ?_))
    refine Tr.give (r := box rb 3 _) (by repeat (first | exact Del.here | apply Del.there)) ?_
    refine Tr.give (r := box sp 51 _) (by repeat (first | exact Del.here | apply Del.there)) ?_
    obtain ⟨ord, hco, -⟩ := id hF
    refine Tr.doneA (A' := stL o (need.length + 1) rws lack tk' gv') (by first | exact .inl rfl | exact .inr rfl) rfl (by repeat (exact RVs.nil)) (Mem.le.refl _) ⟨fun r hr => by simpa [stL, hll] using hr, fun h => by simpa [stL, hll] using h⟩ ⟨rfl, rws, lack, tk', gv', rfl, hsh, hll, hco.ltk, hco.lgv, hF.filled hv hsh hll hfl⟩
  obtain ⟨m1, m2, m3, m4, m5, m6, P, p1, p2, p3, p4, p5⟩ := hF.move hv hsh hfl.toRows
  simp only [lacksB, Bool.and_eq_true, decide_eq_true_eq] at m3
  obtain ⟨m3, m7⟩ := m3
  rw [hll] at m3
  obtain ⟨x, hx⟩ := get_of_lt (xs := lack) (i := to) (by omega)
  have hxv := intV_get hx
  have hx0 : lack.getD to 0 = x := getD_of hx
  rw [hx0] at m7
  obtain ⟨q1, q2, q3, q4, q5⟩ := p5 x m7
  have hneed := hfl.col to m3
  have hx1 : x ≤ 1048576 := by
    have h1 : 0 ≤ colOf (pbOf fits sup need) (amt rws) to := sumN_nonneg fun k hk => hfl.nn k hk to m1
    have h2 := (getD_rng hv.rn to).2
    have h3 : lack.getD to 0 + colOf (pbOf fits sup need) (amt rws) to = need.getD to 0 := hneed
    omega
  have hst := Found.step hv (rws := rws) (rws' := movesR (minL rws x P) rws P) (v := minL rws x P) hll hfl m3 q1 (by rw [hx0]; exact q2) q4 q5
  rw [hx0] at hst
  repeat (first | ((with_reducible refine Tr.step rfl ?_); (first | ((with_reducible refine Knd.move ?_); (refine Exec.stab rfl (Stab.move rfl) rfl ?_)) | ((with_reducible refine Knd.assign ?_); (refine Exec.stab rfl (Stab.assign rfl) rfl ?_)) | ((with_reducible refine Knd.unOp ?_); ((refine Exec.stab rfl (Stab.not rfl) rfl ?_))) | ((with_reducible refine Knd.extract ?_); (refine Exec.stab rfl (Stab.extract rfl rfl) rfl ?_)))) | (with_reducible refine Tr.next ?_) | (with_reducible refine Tr.seq ?_) | (with_reducible refine Tr.region ?_) | (with_reducible refine Tr.nil ?_) | (with_reducible refine Tr.skip ?_) | (refine Tr.cond_bf rfl (by first | (with_reducible rfl) | (with_reducible assumption) | (with_reducible exact Bool.not_true) | (with_reducible exact Bool.not_false)) ?_))
  refine Tr.front (x := ownS 23 1 _ _ _ _) (by repeat (first | exact Del.here | apply Del.there)) ?_
  refine Tr.front (x := rowsR _) (by repeat (first | exact Del.here | apply Del.there)) ?_
  refine Tr.own_some o.Al (by repeat (first | exact Has.here | apply Has.there)) (by omega) (fun hA => ?_)
  (((apply Tr.draw (box o.sb 56 _ :: _)); (kernel_rfl)); (refine TrA.take 0 (by kernel_rfl) rfl (by kernel_rfl) (by first | exact fun _ _ _ h => h | exact fun _ _ _ h => nomatch h.1) (by exact (Sub.mem (by repeat (first | exact Sub.refl | apply Sub.cons)))) rfl (by exact Stab.load rfl (tysOk.get rfl) rfl (by repeat (first | exact Has.here | apply Has.there)) rfl) rfl rfl ?_); (refine TrA.take 4 (by kernel_rfl) rfl (by kernel_rfl) (by first | exact fun _ _ _ h => h | exact fun _ _ _ h => nomatch h.1) (by exact (Sub.mem (by repeat (first | exact Sub.refl | apply Sub.cons)))) rfl (by first | exact Stab.move rfl) rfl rfl ?_); (refine TrA.take 7 (by kernel_rfl) rfl (by kernel_rfl) (by first | exact fun _ _ _ h => h | exact fun _ _ _ h => nomatch h.1) (by exact (Sub.mem (by repeat (first | exact Sub.refl | apply Sub.cons)))) rfl (by exact Stab.load rfl (tysOk.get rfl) rfl (by repeat (first | exact Has.here | apply Has.there)) rfl) rfl rfl ?_); (refine TrA.take 8 (by kernel_rfl) rfl (by kernel_rfl) (by first | exact fun _ _ _ h => h | exact fun _ _ _ h => nomatch h.1) (by exact (Sub.mem (by repeat (first | exact Sub.refl | apply Sub.cons)))) rfl (by first | exact Stab.move rfl) rfl rfl ?_); (refine TrA.take 9 (by kernel_rfl) rfl (by kernel_rfl) (by first | exact fun _ _ _ h => h | exact fun _ _ _ h => nomatch h.1) (by exact (Sub.mem (by repeat (first | exact Sub.refl | apply Sub.cons)))) rfl (by exact Stab.load rfl (tysOk.get rfl) rfl (by repeat (first | exact Has.here | apply Has.there)) rfl) rfl rfl ?_); (refine TrA.take 13 (by kernel_rfl) rfl (by kernel_rfl) (by first | exact fun _ _ _ h => h | exact fun _ _ _ h => nomatch h.1) (by exact (Sub.mem (by repeat (first | exact Sub.refl | apply Sub.cons)))) rfl (by first | exact Stab.move rfl) rfl rfl ?_); (refine TrA.take 1 (by kernel_rfl) rfl (by kernel_rfl) (by first | exact fun _ _ _ h => h | exact fun _ _ _ h => nomatch h.1) (by exact (Sub.mem (by repeat (first | exact Sub.refl | apply Sub.cons)))) rfl (by first | exact Stab.nilCheck rfl) rfl rfl ?_); (refine TrA.take 10 (by kernel_rfl) rfl (by kernel_rfl) (by first | exact fun _ _ _ h => h | exact fun _ _ _ h => nomatch h.1) (by exact (Sub.mem (by repeat (first | exact Sub.refl | apply Sub.cons)))) rfl (by first | exact Stab.nilCheck rfl) rfl rfl ?_); (refine TrA.take 2 (by kernel_rfl) rfl (by kernel_rfl) (by first | exact fun _ _ _ h => h | exact fun _ _ _ h => nomatch h.1) (by exact (Sub.mem (by repeat (first | exact Sub.refl | apply Sub.cons)))) rfl (by exact Stab.fieldZ rfl (tysOk.get rfl) rfl rfl (tysOk.get rfl) rfl) rfl rfl ?_); (refine TrA.take 11 (by kernel_rfl) rfl (by kernel_rfl) (by first | exact fun _ _ _ h => h | exact fun _ _ _ h => nomatch h.1) (by exact (Sub.mem (by repeat (first | exact Sub.refl | apply Sub.cons)))) rfl (by exact Stab.fieldZ rfl (tysOk.get rfl) rfl rfl (tysOk.get rfl) rfl) rfl rfl ?_); (refine TrA.take 3 (by kernel_rfl) rfl (by kernel_rfl) (by first | exact fun _ _ _ h => h | exact fun _ _ _ h => nomatch h.1) (by exact (Sub.mem (by repeat (first | exact Sub.refl | apply Sub.cons)))) rfl (by exact Stab.load rfl (tysOk.get rfl) rfl (by repeat (first | exact Has.here | apply Has.there)) rfl) rfl rfl ?_); (refine TrA.take 12 (by kernel_rfl) rfl (by kernel_rfl) (by first | exact fun _ _ _ h => h | exact fun _ _ _ h => nomatch h.1) (by exact (Sub.mem (by repeat (first | exact Sub.refl | apply Sub.cons)))) rfl (by exact Stab.load rfl (tysOk.get rfl) rfl (by repeat (first | exact Has.here | apply Has.there)) rfl) rfl rfl ?_); (refine TrA.take 5 (by kernel_rfl) rfl (by kernel_rfl) (by first | exact fun _ _ _ h => h | exact fun _ _ _ h => nomatch h.1) (by exact (Sub.mem (by repeat (first | exact Sub.refl | apply Sub.cons)))) rfl (by exact Stab.indexAddr rfl rfl (tysOk.get rfl) rfl (tysOk.get rfl) rfl (by omega) (by omega) (by first | rfl | assumption)) rfl rfl ?_); (refine TrA.take 14 (by kernel_rfl) rfl (by kernel_rfl) (by first | exact fun _ _ _ h => h | exact fun _ _ _ h => nomatch h.1) (by exact (Sub.mem (by repeat (first | exact Sub.refl | apply Sub.cons)))) rfl (by exact Stab.indexAddr rfl rfl (tysOk.get rfl) rfl (tysOk.get rfl) rfl (by omega) (by omega) (by first | rfl | assumption)) rfl rfl ?_); (refine TrA.take 6 (by kernel_rfl) rfl (by kernel_rfl) (by first | exact fun _ _ _ h => h | exact fun _ _ _ h => nomatch h.1) (by exact (Sub.mem (by repeat (first | exact Sub.refl | apply Sub.cons)))) rfl (by exact Stab.loadO rfl (tysOk.get rfl) rfl (by repeat (first | exact Has.here | apply Has.there)) (by assumption)) rfl rfl ?_); (refine TrA.take 15 (by kernel_rfl) rfl (by kernel_rfl) (by first | exact fun _ _ _ h => h | exact fun _ _ _ h => nomatch h.1) (by exact (Sub.mem (by repeat (first | exact Sub.refl | apply Sub.cons)))) rfl (by exact Stab.loadO rfl (tysOk.get rfl) rfl (by repeat (first | exact Has.here | apply Has.there)) (by assumption)) rfl rfl ?_); (refine TrA.eff 16 rfl (by kernel_rfl) (by first | exact .inl rfl | exact .inr ⟨_, _, _, rfl, rfl, rfl⟩) ?_))
  refine Exec.call (A := stL o (need.length + 1) rws lack tk' gv') (F := box rb 3 [.int .i64 (need.length : Int)] :: box sp 51 [.pointer (some ⟨o.sb, 0, none⟩)] :: F) rfl (move_fn M o ho1 rws lack tk' gv' (by rw [hsh.n]; omega) need.length l2 bs (by rw [hsh.n]; exact hsh) (Rows.bounds hv hsh hfl.toRows) m5 m6 need.length to m4 l2 P p1 p2 p3 x (by omega) hx1) (by simp only [stL, hll]; exact ((List.Perm.swap _ _ _).cons _).trans ((List.perm_middle (l₁ := [_, _])).symm)) rfl ?_
  rintro _ _ _ _ ⟨rfl, rfl, rfl⟩
  have hm2 := q3.n.trans hsh.n.symm
  refine ⟨Mem.le.refl _, fun r hr => ?_, ?_⟩
  · simp only [List.mem_cons, List.mem_append, stL, hll, hm2] at hr ⊢
    rcases hr with rfl | rfl | rfl | rfl | hr <;> simp [*]
  simp only [stL, List.cons_append, List.nil_append]
  rw [hll, hm2]
  refine TrA.via (fun X h => Tr.front (x := ownS 23 1 _ _ _ _) (by repeat (first | exact Del.here | apply Del.there)) h) ?_
  refine TrA.via (fun X h => Tr.front (x := rowsR _) (by repeat (first | exact Del.here | apply Del.there)) h) ?_
  ((refine TrA.take 17 (by kernel_rfl) rfl (by kernel_rfl) (by first | exact fun _ _ _ h => h | exact fun _ _ _ h => nomatch h.1) (by exact (Sub.mem (by repeat (first | exact Sub.refl | apply Sub.cons)))) rfl (by exact Stab.subi rfl rfl (by omega)) rfl rfl ?_); (refine TrA.take 18 (by kernel_rfl) rfl (by kernel_rfl) (by first | exact fun _ _ _ h => h | exact fun _ _ _ h => nomatch h.1) (by exact (Sub.mem (by repeat (first | exact Sub.refl | apply Sub.cons)))) rfl (by exact Stab.indexAddr rfl rfl (tysOk.get rfl) rfl (tysOk.get rfl) rfl (by omega) (by omega) (by first | rfl | assumption)) rfl rfl ?_))
  ((refine TrA.effD 19 rfl (by kernel_rfl) (by kernel_rfl) (by first | exact .inl rfl | exact .inr ⟨_, _, _, rfl, rfl, rfl⟩) ?_); (((refine Knd.store ?_); ((refine Exec.storeO rfl rfl (tysOk.get rfl) rfl (by first | rfl | assumption) (by repeat (first | exact Upd.here | apply Upd.there)) (by omega) ?_)))); (refine ⟨_, fun _ h => h, ?_⟩); (refine TrA.done (by kernel_rfl) ?_))
  rw [intV_set]
  refine Tr.front (x := ownS 23 1 _ _ _ _) (by repeat (first | exact Del.here | apply Del.there)) ?_
  refine Tr.front (x := box o.sb 56 _) (by repeat (first | exact Del.here | apply Del.there)) ?_
  have hpos := sumN_nonneg hst.1.lk
  refine Tr.again (movesR (minL rws x P) rws P, lack.set to (x - minL rws x P), tk', gv') ⟨q3, by simp [hll], m5, m6, hst.1⟩ (by simp only; have : 0 ≤ sumN need.length fun b => (lack.set to (x - minL rws x P)).getD b 0 := hpos; omega) (by simp only [stL, List.length_set, hll, hm2, List.cons_append, List.nil_append]; exact (holds_sub (by repeat (first | exact SubFr.nil | refine SubFr.cons rfl ?_)) (by repeat (first | exact DropL.refl | apply DropL.skip))))
end Go.Proofs.Ytmioocddmlfboaa
