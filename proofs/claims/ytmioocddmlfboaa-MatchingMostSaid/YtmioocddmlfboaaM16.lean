/-
  Matching: the contract of cutOf: requests that cannot be met together, of which none can be left out.
  Conditions: none.
-/
import Derived.Test.YtmioocddmlfboaaM15
namespace Go.Proofs.Ytmioocddmlfboaa
open Go Bf
attribute [local irreducible] Tr Exec Stab HasTy Go.Addr.add IntKind.wrap
/-- the problem of some of the requests -/
def pbS (fits : List (List Bool)) (sup need : List Int) (S : Nat → Bool) : Pb := ⟨sup.length, need.length, fun k b => (fits.getD k []).getD b false, fun k => sup.getD k 0, fun b => if S b = true then need.getD b 0 else 0⟩
theorem pbS_others (fits : List (List Bool)) (sup need : List Int) (t : List Bool) (i : Nat) : pbOf fits sup (othersL need t i) = pbS fits sup need (fun b => t.getD b false && decide (b ≠ i)) := by
  unfold pbOf pbS
  simp only [othersL_length, Bool.and_eq_true, decide_eq_true_eq]
  congr
  funext b
  exact othersL_get need t i b
theorem othersL_rng {need : List Int} (h : ∀ x ∈ need, 0 ≤ x ∧ x ≤ 1048576) (t : List Bool) (i : Nat) : ∀ x ∈ othersL need t i, 0 ≤ x ∧ x ≤ 1048576 := by
  intro x hx
  obtain ⟨k, -, rfl⟩ := List.mem_map.1 hx
  split
  · exact getD_rng h k
  · omega
theorem Vld.others {fits : List (List Bool)} {sup need : List Int} (hv : Vld fits sup need) (t : List Bool) (i : Nat) : Vld fits sup (othersL need t i) := ⟨hv.ls, by simpa using hv.ln, hv.lf, fun r hr => by simpa using hv.rows r hr, hv.rs, othersL_rng hv.rn t i⟩
theorem lackOf_none (p : Pb) : lackOf p (fun _ => false) = 0 := by
  unfold lackOf
  have h1 : (sumN p.m fun b => if (fun _ : Nat => false) b = true then p.need b else 0) = 0 := sumN_zero fun _ _ => rfl
  have h2 : (sumN p.n fun k => if touches p (fun _ => false) k = true then p.sup k else 0) = 0 := sumN_zero fun k _ => by
    rw [if_neg]
    rw [touches_iff]
    rintro ⟨_, _, h, _⟩
    cases h
  rw [h1, h2]
  rfl
theorem IsLack.zero {p : Pb} {L : Int} (h : IsLack p L) (hs : ∀ k, k < p.n → 0 ≤ p.sup k) (hn : ∀ b, b < p.m → 0 ≤ p.need b) : L = 0 ↔ Feas p := by
  rw [feas_iff hs hn]
  obtain ⟨⟨D, hD⟩, h1⟩ := h
  refine ⟨fun e D' => by rw [← e]; exact h1 D', fun hf => ?_⟩
  have := hf D
  have := h1 fun _ => false
  rw [lackOf_none] at this
  omega
theorem Vld.sup0 {fits : List (List Bool)} {sup need : List Int} (hv : Vld fits sup need) : ∀ k, k < (pbOf fits sup need).n → 0 ≤ (pbOf fits sup need).sup k := fun k _ => (getD_rng hv.rs k).1
theorem Vld.need0 {fits : List (List Bool)} {sup need : List Int} (hv : Vld fits sup need) : ∀ k, k < (pbOf fits sup need).m → 0 ≤ (pbOf fits sup need).need k := fun k _ => (getD_rng hv.rn k).1
open Classical in
/-- the requests that remain if, from the last one on, those are left out without which the others can't be met either -/
noncomputable def cutF (P : (Nat → Bool) → Prop) : Nat → (Nat → Bool) → Nat → Bool
  | 0, S => S
  | r + 1, S => cutF P r fun b => if b = r then decide (P fun b => S b && decide (b ≠ r)) else S b
noncomputable def cutFin (fits : List (List Bool)) (sup need : List Int) : Nat → Bool := cutF (fun S => Feas (pbS fits sup need S)) need.length fun b => decide (b < need.length)
def memF (S : Nat → Bool) (n : Nat) : List Int := ((List.range n).filter S).map Int.ofNat
theorem memF_succ (S : Nat → Bool) (i : Nat) : memF S (i + 1) = memF S i ++ if S i = true then [(i : Int)] else [] := by
  unfold memF
  rw [List.range_succ, List.filter_append, List.map_append]
  cases h : S i <;> simp [h]
theorem memF_len (S : Nat → Bool) (i : Nat) : (memF S i).length ≤ i := by
  unfold memF
  rw [List.length_map]
  exact Nat.le_trans (List.length_filter_le _ _) (by simp)
theorem getD_rep (n b : Nat) : (List.replicate n true).getD b false = decide (b < n) := by
  rw [List.getD_eq_getElem?_getD]
  by_cases h : b < n
  · simp [h]
  · rw [List.getElem?_eq_none (by simp; omega)]; simp [h]
set_option maxHeartbeats 8000000 in
set_option maxRecDepth 20000 in
theorem cutOf_fn (M : Mem) (A0 A1 A2 : Option Addr) (c0 c1 c2 : Nat) (fits : List (List Bool)) (sup need : List Int) (hf : Fits2 M (.slice A0 fits.length c0) fits) (hs : Ints M (.slice A1 sup.length c1) sup) (hn : Ints M (.slice A2 need.length c2) need) (hv : Vld fits sup need) :
    Fn0 Try.prog 31 [.slice A0 fits.length c0, .slice A1 sup.length c1, .slice A2 need.length c2] M (fun r M' => ∃ B k, r = .slice B (memF (cutFin fits sup need) need.length).length k ∧ Ints M' (.slice B (memF (cutFin fits sup need) need.length).length k) (memF (cutFin fits sup need) need.length)) := by
  have l1 := hv.ls
  have l2 := hv.ln
  refine Fn.introM Try.func31 rfl rfl Try.ntmps31 rfl fun E F => ?_
  repeat (first | ((with_reducible refine Tr.step rfl ?_); (first | ((with_reducible refine Knd.move ?_); (refine Exec.stab rfl (Stab.move rfl) rfl ?_)) | ((with_reducible refine Knd.assign ?_); (refine Exec.stab rfl (Stab.assign rfl) rfl ?_)) | ((with_reducible refine Knd.load ?_); ((refine Exec.stab rfl (Stab.load rfl (tysOk.get rfl) rfl (by repeat (first | exact Has.here | apply Has.there)) rfl) rfl ?_))) | ((with_reducible refine Knd.len ?_); ((refine Exec.stab rfl (Stab.len rfl (tysOk.get rfl) rfl) rfl ?_))) | ((with_reducible refine Knd.store ?_); ((refine Exec.store rfl rfl (tysOk.get rfl) rfl (by first | rfl | assumption) (by repeat (first | exact Upd.here | apply Upd.there)) (by repeat (first | exact SetL.z | apply SetL.s)) ?_))) | ((with_reducible refine Knd.box ?_); (first | (refine Exec.box rfl rfl (fun b => ?_)) | (refine Exec.box1 rfl (by first | rfl | assumption) rfl (fun b => ?_)))) | ((with_reducible refine Knd.alloc ?_); (first | (refine Exec.alloc (tysOk.get rfl) rfl rfl (fun b => ?_)) | (refine Exec.alloc1 (tysOk.get rfl) rfl rfl rfl (fun b => ?_)))) | ((with_reducible refine Knd.makeSlice ?_); (refine Exec.make rfl rfl (tysOk.get rfl) rfl (tysOk.get rfl) rfl rfl rfl (by omega) (by omega) (by first | omega | (simp; done) | (simp; omega)) (by omega) rfl (fun b => ?_))))) | (with_reducible refine Tr.next ?_) | (with_reducible refine Tr.seq ?_) | (with_reducible refine Tr.region ?_) | (with_reducible refine Tr.nil ?_) | (with_reducible refine Tr.block ?_))
  generalize b = b7
  rename_i b3 b4 tB
  rw [show ((need.length : Int)).toNat = need.length by omega, show List.replicate need.length (Value.bool false) = boV (List.replicate need.length false) by simp [boV]]
  refine Tr.loop (α := Nat × List Bool) (fun y => ⟨54, [(18, .int .i64 (y.1 : Int)), (17, .int .i64 (need.length : Int)), (7, .pointer (some ⟨b7, 0, none⟩)), (6, .slice none 0 0), (4, .pointer (some ⟨b4, 0, none⟩)), (3, .pointer (some ⟨b3, 0, none⟩)), (2, .slice A2 need.length c2)], [], M, box b7 43 [.slice (some ⟨tB, 0, none⟩) need.length need.length] :: box tB 4 (boV y.2) :: box b4 23 [.slice A1 sup.length c1] :: box b3 22 [.slice A0 fits.length c0] :: ([] ++ F)⟩)
    (fun y => y.1 ≤ need.length ∧ y.2.length = need.length ∧ ∀ q, q < y.1 → y.2.getD q false = true) (fun y => need.length - y.1) (0, List.replicate need.length false) ⟨Nat.zero_le _, by simp, fun q h => absurd h (Nat.not_lt_zero _)⟩ (holds_sub (by repeat (first | exact SubFr.nil | refine SubFr.cons rfl ?_)) (by repeat (first | exact DropL.refl | apply DropL.skip))) (fun y hy => ?_)
  obtain ⟨k, xs⟩ := y
  obtain ⟨hk, hxl, hxs⟩ := hy
  simp only at hk hxl hxs
  dsimp only
  have hbl : (boV xs).length = need.length := by simp [hxl]
  by_cases hkn : k < need.length
  · repeat (first | ((with_reducible refine Tr.step rfl ?_); (first | ((with_reducible refine Knd.move ?_); (refine Exec.stab rfl (Stab.move rfl) rfl ?_)) | ((with_reducible refine Knd.assign ?_); (refine Exec.stab rfl (Stab.assign rfl) rfl ?_)) | ((with_reducible refine Knd.load ?_); ((refine Exec.stab rfl (Stab.load rfl (tysOk.get rfl) rfl (by repeat (first | exact Has.here | apply Has.there)) rfl) rfl ?_))) | ((with_reducible refine Knd.binOp ?_); (first | (refine Exec.stab rfl (Stab.addi rfl rfl (by omega)) rfl ?_) | (refine Exec.stab rfl (Stab.int rfl rfl rfl) rfl ?_))) | ((with_reducible refine Knd.store ?_); ((refine Exec.storeS rfl rfl (tysOk.get rfl) rfl (by first | rfl | assumption) (by repeat (first | exact Upd.here | apply Upd.there)) (by omega) ?_))) | ((with_reducible refine Knd.indexAddr ?_); ((refine Exec.stab rfl (Stab.indexB0 rfl rfl (tysOk.get rfl) rfl (tysOk.get rfl) rfl (by omega) (by omega)) rfl ?_))))) | (with_reducible refine Tr.next ?_) | (with_reducible refine Tr.seq ?_) | (with_reducible refine Tr.region ?_) | (with_reducible refine Tr.nil ?_) | (with_reducible refine Tr.skip ?_) | (with_reducible refine Tr.block ?_) | (with_reducible refine Tr.in_normal ?_) | (refine Tr.cond_t rfl (by first | (with_reducible assumption) | (with_reducible rfl) | (with_reducible exact (not_not_intro rfl)) | omega) ?_))
    rw [boV_set]
    refine Tr.again (k + 1, xs.set k true) ⟨by simp only; omega, by simpa using hxl, fun q hq => ?_⟩ (by simp only; omega) (holds_sub (by repeat (first | exact SubFr.nil | refine SubFr.cons rfl ?_)) (by repeat (first | exact DropL.refl | apply DropL.skip)))
    simp only at hq ⊢
    by_cases e : k = q
    · subst e
      rw [List.getD_eq_getElem?_getD, List.getElem?_set_self (by omega)]; rfl
    · rw [List.getD_eq_getElem?_getD, List.getElem?_set_ne e, ← List.getD_eq_getElem?_getD]
      exact hxs q (by omega)
  have ek : k = need.length := by omega
  subst ek
  have hS0 : (fun b => xs.getD b false) = fun b => decide (b < need.length) := by
    funext b
    by_cases hb : b < need.length
    · rw [hxs b hb]; simp [hb]
    · rw [List.getD_eq_getElem?_getD, List.getElem?_eq_none (by omega)]; simp [hb]
  repeat (first | ((with_reducible refine Tr.step rfl ?_); (first | ((with_reducible refine Knd.move ?_); (refine Exec.stab rfl (Stab.move rfl) rfl ?_)) | ((with_reducible refine Knd.load ?_); ((refine Exec.stab rfl (Stab.load rfl (tysOk.get rfl) rfl (by repeat (first | exact Has.here | apply Has.there)) rfl) rfl ?_))) | ((with_reducible refine Knd.binOp ?_); ((refine Exec.stab rfl (Stab.int rfl rfl rfl) rfl ?_))))) | (with_reducible refine Tr.next ?_) | (with_reducible refine Tr.seq ?_) | (with_reducible refine Tr.region ?_) | (with_reducible refine Tr.nil ?_) | (with_reducible refine Tr.exit ?_) | (with_reducible refine Tr.then_exit ?_) | ((with_reducible refine Tr.in_exit ?_ ?_); (exact rfl)) | (refine Tr.cond_f rfl (by first | (with_reducible assumption) | (with_reducible rfl) | (with_reducible exact (not_not_intro rfl)) | omega) ?_))
  ((refine Tr.step rfl ?_))
  refine Exec.call (A := []) rfl (sets_fn M (.slice A2 need.length c2) (.slice (some ⟨tB, 0, none⟩) need.length need.length) rfl rfl) (List.Perm.refl _) rfl ?_
  rintro _ _ _ _ ⟨nb, tb, rfl, rfl, rfl⟩
  repeat (first | (with_reducible refine Tr.next ?_) | (with_reducible refine Tr.nil ?_) | (with_reducible refine Tr.block ?_))
  refine Tr.box_own (b := tB) (e := 4) (cs := boV xs) 1 need.length (by repeat (first | exact Upd.here | apply Upd.there)) (by omega) (by intro u hu; obtain ⟨x, _, rfl⟩ := List.mem_map.1 hu; rfl) (by simp [maxLen]; omega) ?_
  generalize (some (⟨tB, 0, none⟩ : Addr)) = B
  refine Tr.front (x := ownS 4 1 _ _ _ _) (by repeat (first | exact Del.here | apply Del.there)) ?_
  refine Tr.front (x := box tb 43 _) (by repeat (first | exact Del.here | apply Del.there)) ?_
  refine Tr.front (x := box nb 23 _) (by repeat (first | exact Del.here | apply Del.there)) ?_
  refine Tr.rangeFunc' (A := [box nb 23 [.slice A2 need.length c2], box tb 43 [.slice B need.length need.length], ownS 4 1 B need.length need.length (boV xs), box b7 43 [.slice B need.length need.length], box b4 23 [.slice A1 sup.length c1], box b3 22 [.slice A0 fits.length c0]]) (F := F)
    (Rf := fun o M' A'' => Mem.le M M' ∧ o = none ∧ ∃ t' : List Bool, t'.length = need.length ∧ (fun b => t'.getD b false) = cutFin fits sup need ∧ A'' = [ownS 4 1 B need.length need.length (boV t'), box b7 43 [.slice B need.length need.length], box b4 23 [.slice A1 sup.length c1], box b3 22 [.slice A0 fits.length c0]]) rfl (List.Perm.refl _) (fun l dd lp p1 p2 p3 p4 p5 hfit => ?_) (fun dd M' A'' hm => ⟨?_, ?_⟩)
  · refine Bf.Fn.mono (sets1_fn M A2 c2 need hn l2 l nb tb B need.length
      (fun i t A' => A' = [loopR l lp, defR dd, box b7 43 [.slice B need.length need.length], box b4 23 [.slice A1 sup.length c1], box b3 22 [.slice A0 fits.length c0]] ∧ cutF (fun S => Feas (pbS fits sup need S)) i (fun b => t.getD b false) = cutFin fits sup need)
      xs [loopR l lp, defR dd, box b7 43 [.slice B need.length need.length], box b4 23 [.slice A1 sup.length c1], box b3 22 [.slice A0 fits.length c0]] _
      (fun t A => match A with | x :: y :: r => x :: y :: ownS 4 1 B need.length need.length (boV t) :: r | r => ownS 4 1 B need.length need.length (boV t) :: r)
      (fun t A => by
        rcases A with _ | ⟨x, _ | ⟨y, r⟩⟩
        · exact List.Perm.refl _
        · exact List.Perm.refl _
        · exact (List.perm_middle (l₁ := [x, y])).symm)
      hxl ⟨rfl, by rw [hS0]; rfl⟩ ((List.perm_append_comm (l₁ := [_, _, _]) (l₂ := [loopR l lp, defR dd])).append_right [_, _, _]) (fun i t A' M1 B5 c5 hi ht hM1 hJ hI => ?_)) (fun v M' A' hm hR => ?_)
    · obtain ⟨rfl, hJ⟩ := hJ
      have hmo := most_fn M1 A0 A1 B5 c0 c1 c5 fits sup (othersL need t i) (hf.mono RRowB.mono hM1) (hs.mono RI.mono hM1) (by rw [othersL_length]; exact hI) (hv.others t i)
      have hcn := hI.cap
      rw [othersL_length] at hcn
      have hsu := sum_fn M1 [] B5 c5 (othersL need t i) (by rw [othersL_length]; exact hcn.2.1) (fun h => by
        cases B5 with
        | none => exact absurd (List.eq_nil_of_length_eq_zero (by rw [othersL_length]; exact hcn.2.2.2 rfl)) h
        | some a => rfl) (by have := hI.row; exact Src.row this) (small_of (by rw [othersL_length]; exact l2) (othersL_rng hv.rn t i))
      rw [othersL_length] at hmo hsu
      have hsr := sum_rng (by rw [othersL_length]; exact l2) (othersL_rng hv.rn t i)
      have htl : (boV t).length = need.length := by simp [ht]
      refine Yl.intro (ps := [28, 29]) p3 rfl (by simp) hfit (by repeat (first | exact Has.here | apply Has.there)) (fun E F => ?_)
      rw [p4, p5]
      repeat (first | ((with_reducible refine Tr.step rfl ?_); (((with_reducible refine Knd.assign ?_); (refine Exec.stab rfl (Stab.assign rfl) rfl ?_)))) | (with_reducible refine Tr.next ?_) | (with_reducible refine Tr.seq ?_) | (with_reducible refine Tr.region ?_) | (with_reducible refine Tr.nil ?_))
      refine Tr.begin (by repeat (first | exact Upd.here | apply Upd.there)) p1 ?_
      refine Tr.own_some B (by repeat (first | exact Has.here | apply Has.there)) (by omega) (fun hB => ?_)
      repeat ((with_reducible refine Tr.block ?_))
      (((apply Tr.draw); (kernel_rfl)); (refine TrA.take 0 (by kernel_rfl) rfl (by kernel_rfl) (by first | exact fun _ _ _ h => h | exact fun _ _ _ h => nomatch h.1) (by exact fun _ h => h) rfl (by exact Stab.load rfl (tysOk.get rfl) rfl (by repeat (first | exact Has.here | apply Has.there)) rfl) rfl rfl ?_); (refine TrA.take 1 (by kernel_rfl) rfl (by kernel_rfl) (by first | exact fun _ _ _ h => h | exact fun _ _ _ h => nomatch h.1) (by exact fun _ h => h) rfl (by first | exact Stab.move rfl) rfl rfl ?_); (refine TrA.take 2 (by kernel_rfl) rfl (by kernel_rfl) (by first | exact fun _ _ _ h => h | exact fun _ _ _ h => nomatch h.1) (by exact fun _ h => h) rfl (by exact Stab.load rfl (tysOk.get rfl) rfl (by repeat (first | exact Has.here | apply Has.there)) rfl) rfl rfl ?_); (refine TrA.take 3 (by kernel_rfl) rfl (by kernel_rfl) (by first | exact fun _ _ _ h => h | exact fun _ _ _ h => nomatch h.1) (by exact fun _ h => h) rfl (by exact Stab.load rfl (tysOk.get rfl) rfl (by repeat (first | exact Has.here | apply Has.there)) rfl) rfl rfl ?_); (refine TrA.take 4 (by kernel_rfl) rfl (by kernel_rfl) (by first | exact fun _ _ _ h => h | exact fun _ _ _ h => nomatch h.1) (by exact fun _ h => h) rfl (by first | exact Stab.move rfl) rfl rfl ?_); (refine TrA.take 6 (by kernel_rfl) rfl (by kernel_rfl) (by first | exact fun _ _ _ h => h | exact fun _ _ _ h => nomatch h.1) (by exact fun _ h => h) rfl (by first | exact Stab.move rfl) rfl rfl ?_); (refine TrA.eff 5 rfl (by kernel_rfl) (by first | exact .inl rfl | exact .inr ⟨_, _, _, rfl, rfl, rfl⟩) ?_))
      refine Exec.call0 rfl hmo rfl ?_
      rintro _ _ _ ⟨⟨L, rfl, hL⟩, rfl⟩
      refine ⟨Mem.le.refl _, (by exact fun _ h => h), ?_⟩
      ((refine TrA.eff 7 rfl (by kernel_rfl) (by first | exact .inl rfl | exact .inr ⟨_, _, _, rfl, rfl, rfl⟩) ?_))
      refine Exec.call (A := []) rfl hsu (List.Perm.refl _) rfl ?_
      rintro _ _ _ _ ⟨rfl, rfl, rfl⟩
      refine ⟨Mem.le.refl _, (by exact fun _ h => h), ?_⟩
      ((refine TrA.take 8 (by kernel_rfl) rfl (by kernel_rfl) (by first | exact fun _ _ _ h => h | exact fun _ _ _ h => nomatch h.1) (by exact fun _ h => h) rfl (by exact Stab.int rfl rfl rfl) rfl rfl ?_); (refine TrA.take 9 (by kernel_rfl) rfl (by kernel_rfl) (by first | exact fun _ _ _ h => h | exact fun _ _ _ h => nomatch h.1) (by exact fun _ h => h) rfl (by exact Stab.indexAddr rfl rfl (tysOk.get rfl) rfl (tysOk.get rfl) rfl (by omega) (by omega) (by first | rfl | assumption)) rfl rfl ?_); (refine TrA.effD 10 rfl (by kernel_rfl) (by kernel_rfl) (by first | exact .inl rfl | exact .inr ⟨_, _, _, rfl, rfl, rfl⟩) ?_); (((refine Knd.store ?_); ((refine Exec.storeO rfl rfl (tysOk.get rfl) rfl (by first | rfl | assumption) (by repeat (first | exact Upd.here | apply Upd.there)) (by omega) ?_)))); (refine ⟨_, fun _ h => h, ?_⟩); (refine TrA.done (by kernel_rfl) ?_))
      rw [boV_set]
      repeat ((with_reducible refine Tr.in_normal ?_))
      have hdec : decide ((othersL need t i).sum - L = (othersL need t i).sum) = @decide (Feas (pbS fits sup need fun b => t.getD b false && decide (b ≠ i))) (Classical.propDecidable _) := by
        have h1 := hL.zero (hv.others t i).sup0 (hv.others t i).need0
        rw [pbS_others] at h1
        have h2 : (othersL need t i).sum - L = (othersL need t i).sum ↔ L = 0 := by omega
        exact decide_eq_decide.2 (h2.trans h1)
      have hlp : ({ lp with state := .ready, pending := none } : Loop) = lp := by cases lp; simp_all
      refine Tr.front (x := defR dd) (by repeat (first | exact Del.here | apply Del.there)) ?_
      refine Tr.front (x := loopR l _) (by repeat (first | exact Del.here | apply Del.there)) ?_
      refine Tr.front (x := ownS 4 1 _ _ _ _) (by repeat (first | exact Del.here | apply Del.there)) ?_
      refine Tr.round_normal (A' := [ownS 4 1 B need.length need.length (boV (t.set i (decide ((othersL need t i).sum - L = (othersL need t i).sum)))), loopR l { lp with state := .ready, pending := none }, defR dd, box b7 43 [.slice B need.length need.length], box b4 23 [.slice A1 sup.length c1], box b3 22 [.slice A0 fits.length c0]]) (by repeat (first | exact Upd.here | apply Upd.there)) (DropL.refl) (Mem.le.refl _) ⟨rfl, _, _, rfl, by simpa using ht, by rw [hlp], ?_⟩
      rw [← hJ, cutF]
      congr
      funext b
      by_cases hb : b = i
      · subst hb
        rw [if_pos rfl, List.getD_eq_getElem?_getD, List.getElem?_set_self (by omega)]
        exact hdec
      · rw [if_neg hb, List.getD_eq_getElem?_getD, List.getElem?_set_ne (Ne.symm hb), ← List.getD_eq_getElem?_getD]
    · obtain ⟨hM', t', A3, ht', rfl, rfl, hS⟩ := hR
      exact ⟨lp, _, rfl, by rw [p1]; decide, hM', p2, t', ht', hS, rfl⟩
  · rintro ⟨hM', -, t', ht', hS, rfl⟩
    have htl : (boV t').length = need.length := by simp [ht']
    repeat (first | ((with_reducible refine Tr.step rfl ?_); (first | ((with_reducible refine Knd.move ?_); (refine Exec.stab rfl (Stab.move rfl) rfl ?_)) | ((with_reducible refine Knd.load ?_); ((refine Exec.stab rfl (Stab.load rfl (tysOk.get rfl) rfl (by repeat (first | exact Has.here | apply Has.there)) rfl) rfl ?_))) | ((with_reducible refine Knd.len ?_); ((refine Exec.stab rfl (Stab.len rfl (tysOk.get rfl) rfl) rfl ?_))))) | (with_reducible refine Tr.next ?_) | (with_reducible refine Tr.seq ?_) | (with_reducible refine Tr.region ?_) | (with_reducible refine Tr.nil ?_) | (with_reducible refine Tr.block ?_) | (with_reducible refine Tr.in_normal ?_))
    refine Tr.own_nil 3 1 ?_
    refine Tr.loop (α := Nat × Option Addr × Nat) (fun y => ⟨54, [(42, .int .i64 (y.1 : Int)), (41, .int .i64 (need.length : Int)), (40, .slice B need.length need.length), (7, .pointer (some ⟨b7, 0, none⟩)), (6, .slice y.2.1 (memF (cutFin fits sup need) y.1).length y.2.2)], [coll dd], M', ownS 3 1 y.2.1 (memF (cutFin fits sup need) y.1).length y.2.2 (intV (memF (cutFin fits sup need) y.1)) :: defR dd :: ownS 4 1 B need.length need.length (boV t') :: box b7 43 [.slice B need.length need.length] :: box b4 23 [.slice A1 sup.length c1] :: box b3 22 [.slice A0 fits.length c0] :: ([] ++ F)⟩)
      (fun y => y.1 ≤ need.length ∧ y.2.2 ≤ 9223372036854775807) (fun y => need.length - y.1) (0, none, 0) ⟨Nat.zero_le _, by simp⟩ (holds_sub (by repeat (first | exact SubFr.nil | refine SubFr.cons rfl ?_)) (by repeat (first | exact DropL.refl | apply DropL.skip))) (fun y hy => ?_)
    obtain ⟨k, A6, c6⟩ := y
    obtain ⟨hk2, hc6⟩ := hy
    simp only at hk2 hc6
    dsimp only
    have hml := memF_len (cutFin fits sup need) k
    by_cases hkn2 : k < need.length
    rotate_left
    · have ek : k = need.length := by omega
      subst ek
      repeat (first | ((with_reducible refine Tr.step rfl ?_); (first | ((with_reducible refine Knd.move ?_); (refine Exec.stab rfl (Stab.move rfl) rfl ?_)) | ((with_reducible refine Knd.assign ?_); (refine Exec.stab rfl (Stab.assign rfl) rfl ?_)) | ((with_reducible refine Knd.binOp ?_); ((refine Exec.stab rfl (Stab.int rfl rfl rfl) rfl ?_))))) | (with_reducible refine Tr.next ?_) | (with_reducible refine Tr.seq ?_) | (with_reducible refine Tr.region ?_) | (with_reducible refine Tr.nil ?_) | (with_reducible refine Tr.exit ?_) | (with_reducible refine Tr.ret ?_) | (with_reducible refine Tr.then_exit ?_) | ((with_reducible refine Tr.in_exit ?_ ?_); (exact rfl)) | (refine Tr.cond_f rfl (by first | (with_reducible assumption) | (with_reducible rfl) | (with_reducible exact (not_not_intro rfl)) | omega) ?_))
      refine Tr.publish (r := ownS 3 1 _ _ _ _) (by repeat (first | exact Del.here | apply Del.there)) (fun M2 hm2 hok => ?_)
      have hfin := hM'.trans hm2
      have hI := Ints.ofOwn hok rfl hc6
      (refine Tr.doneM [_] rfl (by first | exact .inl rfl | exact .inr rfl) rfl (List.Perm.refl _) (by repeat (first | exact RVs.nil | (apply RVs.cons; (exact RV.tmp rfl)))) (by first | exact Mem.le.refl _ | assumption) (by exact ⟨[_, _, _, _], rfl⟩) ⟨rfl, ?_⟩)
      exact ⟨A6, c6, rfl, hI⟩
    · obtain ⟨tv, htv⟩ := get_of_lt (xs := t') (i := k) (by omega)
      have htb := boV_get htv
      have htd : cutFin fits sup need k = tv := by rw [← hS]; exact getD_of htv
      have hsu := memF_succ (cutFin fits sup need) k
      rw [htd] at hsu
      refine Tr.own_some B (by repeat (first | exact Has.here | apply Has.there)) (by omega) (fun hB => ?_)
      cases tv
      · repeat (first | ((with_reducible refine Tr.step rfl ?_); (first | ((with_reducible refine Knd.move ?_); (refine Exec.stab rfl (Stab.move rfl) rfl ?_)) | ((with_reducible refine Knd.assign ?_); (refine Exec.stab rfl (Stab.assign rfl) rfl ?_)) | ((with_reducible refine Knd.load ?_); ((refine Exec.stab rfl (Stab.loadO rfl (tysOk.get rfl) rfl (by repeat (first | exact Has.here | apply Has.there)) (by assumption)) rfl ?_))) | ((with_reducible refine Knd.binOp ?_); (first | (refine Exec.stab rfl (Stab.addi rfl rfl (by omega)) rfl ?_) | (refine Exec.stab rfl (Stab.int rfl rfl rfl) rfl ?_))) | ((with_reducible refine Knd.indexAddr ?_); ((refine Exec.stab rfl (Stab.indexAddr rfl rfl (tysOk.get rfl) rfl (tysOk.get rfl) rfl (by omega) (by omega) (by first | rfl | assumption)) rfl ?_))))) | (with_reducible refine Tr.next ?_) | (with_reducible refine Tr.seq ?_) | (with_reducible refine Tr.region ?_) | (with_reducible refine Tr.nil ?_) | (with_reducible refine Tr.skip ?_) | (with_reducible refine Tr.block ?_) | (with_reducible refine Tr.in_normal ?_) | (refine Tr.cond_bf rfl (by first | (with_reducible rfl) | (with_reducible assumption) | (with_reducible exact Bool.not_true) | (with_reducible exact Bool.not_false)) ?_) | (refine Tr.cond_t rfl (by first | (with_reducible assumption) | (with_reducible rfl) | (with_reducible exact (not_not_intro rfl)) | omega) ?_))
        simp only [Bool.false_eq_true, if_false, List.append_nil] at hsu
        rw [← hsu]
        refine Tr.again (k + 1, A6, c6) ⟨by simp only; omega, hc6⟩ (by simp only; omega) (holds_sub (by repeat (first | exact SubFr.nil | refine SubFr.cons rfl ?_)) (by repeat (first | exact DropL.refl | apply DropL.skip)))
      · repeat (first | ((with_reducible refine Tr.step rfl ?_); (first | ((with_reducible refine Knd.move ?_); (refine Exec.stab rfl (Stab.move rfl) rfl ?_)) | ((with_reducible refine Knd.assign ?_); (refine Exec.stab rfl (Stab.assign rfl) rfl ?_)) | ((with_reducible refine Knd.load ?_); ((refine Exec.stab rfl (Stab.loadO rfl (tysOk.get rfl) rfl (by repeat (first | exact Has.here | apply Has.there)) (by assumption)) rfl ?_))) | ((with_reducible refine Knd.binOp ?_); ((refine Exec.stab rfl (Stab.int rfl rfl rfl) rfl ?_))) | ((with_reducible refine Knd.indexAddr ?_); ((refine Exec.stab rfl (Stab.indexAddr rfl rfl (tysOk.get rfl) rfl (tysOk.get rfl) rfl (by omega) (by omega) (by first | rfl | assumption)) rfl ?_))) | ((with_reducible refine Knd.buildSlice ?_); ((refine Exec.buildSlice (tysOk.get rfl) rfl (tysOk.get rfl) rfl rfl rfl rfl rfl (by repeat (first | exact BuildP.nil | ((apply BuildP.one); (rfl); (rfl); (first | rfl | assumption); (repeat (first | exact SetL.z | apply SetL.s))))) rfl (fun b => ?_)))))) | (with_reducible refine Tr.next ?_) | (with_reducible refine Tr.seq ?_) | (with_reducible refine Tr.region ?_) | (with_reducible refine Tr.nil ?_) | (with_reducible refine Tr.skip ?_) | (with_reducible refine Tr.block ?_) | (refine Tr.cond_bt rfl (by first | (with_reducible rfl) | (with_reducible assumption) | (with_reducible exact Bool.not_true) | (with_reducible exact Bool.not_false)) ?_) | (refine Tr.cond_t rfl (by first | (with_reducible assumption) | (with_reducible rfl) | (with_reducible exact (not_not_intro rfl)) | omega) ?_))
        refine Tr.cells (cs' := [.int .i64 (k : Int)]) (by repeat (first | exact Upd.here | apply Upd.there)) rfl ?_
        simp only [if_true] at hsu
        ((refine Tr.step rfl ?_))
        refine Exec.append (news := [.int .i64 (k : Int)]) rfl rfl (tysOk.get rfl) rfl (tysOk.get rfl) rfl rfl rfl rfl (by repeat (first | exact Del.here | apply Del.there)) (Src.box (by repeat (first | exact Has.here | apply Has.there))) rfl (by intro u hu; simp at hu; subst hu; rfl) (by omega) (by omega) rfl (fun A7 c7 hc7 => ?_)
        have hcl : intV (memF (cutFin fits sup need) k) ++ [.int .i64 (k : Int)] = intV (memF (cutFin fits sup need) (k + 1)) := by rw [hsu, intV_append]; rfl
        have hle : (memF (cutFin fits sup need) k).length + 1 = (memF (cutFin fits sup need) (k + 1)).length := by rw [hsu]; simp
        rw [hcl, hle]
        repeat (first | ((with_reducible refine Tr.step rfl ?_); (first | ((with_reducible refine Knd.move ?_); (refine Exec.stab rfl (Stab.move rfl) rfl ?_)) | ((with_reducible refine Knd.assign ?_); (refine Exec.stab rfl (Stab.assign rfl) rfl ?_)) | ((with_reducible refine Knd.binOp ?_); ((refine Exec.stab rfl (Stab.addi rfl rfl (by omega)) rfl ?_))))) | (with_reducible refine Tr.next ?_) | (with_reducible refine Tr.region ?_) | (with_reducible refine Tr.nil ?_) | (with_reducible refine Tr.in_normal ?_))
        refine Tr.give (r := box _ 3 _) (by repeat (first | exact Del.here | apply Del.there)) ?_
        refine Tr.again (k + 1, A7, c7) ⟨by simp only; omega, hc7⟩ (by simp only; omega) (holds_sub (by repeat (first | exact SubFr.nil | refine SubFr.cons rfl ?_)) (by repeat (first | exact DropL.refl | apply DropL.skip)))
  · rintro c ⟨-, h, -⟩
    cases h
end Go.Proofs.Ytmioocddmlfboaa
