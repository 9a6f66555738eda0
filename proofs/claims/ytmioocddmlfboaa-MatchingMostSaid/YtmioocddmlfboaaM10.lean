/-
  Matching: the contract of search.
  Conditions: none.
-/
import Derived.Test.YtmioocddmlfboaaM9
namespace Go.Proofs.Ytmioocddmlfboaa
open Go Bf
attribute [local irreducible] Tr Exec Stab HasTy Go.Addr.add IntKind.wrap
/-- what a search found -/
def Found (rws : List (Nat × List Int)) (fits : List (List Bool)) (R r1 a : Nat) (G : Nat → Bool) (tk gv : List Int) (to : Nat) (ok : Bool) : Prop :=
  ∃ ord, Core rws fits R r1 a tk gv ord ∧ ((ok = true ∧ to ∈ ord ∧ to ≠ a ∧ G to = true) ∨ (ok = false ∧ (∀ b ∈ ord, b ≠ a → G b = false) ∧ ∀ x ∈ ord, ∀ k, r1 ≤ k → k < rws.length → amt rws k x ≠ 0 → ∀ b, b ≤ R → srvB fits R k b = true → b ∈ ord))
def qV (q : List Nat) : List Value := q.map fun b : Nat => .int .i64 (b : Int)
/-- between two rounds of a search -/
structure Mid (rws : List (Nat × List Int)) (fits : List (List Bool)) (R r1 a : Nat) (G : Nat → Bool) (tk gv : List Int) (done q : List Nat) : Prop where
  core : Core rws fits R r1 a tk gv (done ++ q)
  goal : ∀ b ∈ done ++ q, b ≠ a → G b = false
  dn : ∀ x ∈ done, ∀ k, r1 ≤ k → k < rws.length → amt rws k x ≠ 0 → tk.getD k 0 ≠ -1
  full : ∀ k, k < rws.length → tk.getD k 0 ≠ -1 → ∀ b, b ≤ R → srvB fits R k b = true → gv.getD b 0 ≠ -1
theorem Mid.found {rws : List (Nat × List Int)} {fits : List (List Bool)} {R r1 a : Nat} {G : Nat → Bool} {tk gv : List Int} {done : List Nat} (h : Mid rws fits R r1 a G tk gv done []) : Found rws fits R r1 a G tk gv 0 false := by
  have hc := h.core
  have hg := h.goal
  rw [List.append_nil] at hc hg
  exact ⟨done, hc, .inr ⟨rfl, hg, fun x hx k h1 h2 h3 b hb hs => (hc.mem b hb).1 (h.full k h2 (h.dn x hx k h1 h2 h3) b hb hs)⟩⟩
/-- while the supplies are gone through for x -/
structure KMid (rws : List (Nat × List Int)) (fits : List (List Bool)) (R r1 a : Nat) (G : Nat → Bool) (tk gv : List Int) (done : List Nat) (x : Nat) (q : List Nat) (k : Nat) : Prop where
  core : Core rws fits R r1 a tk gv (done ++ x :: q)
  goal : ∀ b ∈ done ++ x :: q, b ≠ a → G b = false
  dn : ∀ x ∈ done, ∀ k, r1 ≤ k → k < rws.length → amt rws k x ≠ 0 → tk.getD k 0 ≠ -1
  full : ∀ k, k < rws.length → tk.getD k 0 ≠ -1 → ∀ b, b ≤ R → srvB fits R k b = true → gv.getD b 0 ≠ -1
  cur : ∀ k', r1 ≤ k' → k' < k → k' < rws.length → amt rws k' x ≠ 0 → tk.getD k' 0 ≠ -1
theorem KMid.start {rws : List (Nat × List Int)} {fits : List (List Bool)} {R r1 a : Nat} {G : Nat → Bool} {tk gv : List Int} {done : List Nat} {x : Nat} {q : List Nat} (h : Mid rws fits R r1 a G tk gv done (x :: q)) : KMid rws fits R r1 a G tk gv done x q r1 := ⟨h.core, h.goal, h.dn, h.full, fun k h1 h2 => by omega⟩
theorem KMid.fin {rws : List (Nat × List Int)} {fits : List (List Bool)} {R r1 a : Nat} {G : Nat → Bool} {tk gv : List Int} {done : List Nat} {x : Nat} {q : List Nat} {k : Nat} (h : KMid rws fits R r1 a G tk gv done x q k) (hk : rws.length ≤ k) : Mid rws fits R r1 a G tk gv (done ++ [x]) q := by
  have e : done ++ [x] ++ q = done ++ x :: q := by simp
  refine ⟨by rw [e]; exact h.core, by rw [e]; exact h.goal, fun y hy k' h1 h2 h3 => ?_, h.full⟩
  rcases List.mem_append.1 hy with hy | hy
  · exact h.dn y hy k' h1 h2 h3
  · simp at hy
    subst hy
    exact h.cur k' h1 (by omega) h2 h3
theorem KMid.skip {rws : List (Nat × List Int)} {fits : List (List Bool)} {R r1 a : Nat} {G : Nat → Bool} {tk gv : List Int} {done : List Nat} {x : Nat} {q : List Nat} {k : Nat} (h : KMid rws fits R r1 a G tk gv done x q k) (hk : tk.getD k 0 ≠ -1 ∨ amt rws k x = 0) : KMid rws fits R r1 a G tk gv done x q (k + 1) :=
  ⟨h.core, h.goal, h.dn, h.full, fun k' h1 h2 h3 h4 => by
    by_cases e : k' = k
    · subst e
      rcases hk with hk | hk
      · exact hk
      · exact absurd hk h4
    · exact h.cur k' h1 (by omega) h3 h4⟩
/-- while the requests are gone through for the supply k -/
structure BMid (rws : List (Nat × List Int)) (fits : List (List Bool)) (R r1 a : Nat) (G : Nat → Bool) (tk gv : List Int) (done : List Nat) (x : Nat) (q : List Nat) (k b : Nat) : Prop where
  core : Core rws fits R r1 a tk gv (done ++ x :: q)
  goal : ∀ b ∈ done ++ x :: q, b ≠ a → G b = false
  full : ∀ k', k' < rws.length → k' ≠ k → tk.getD k' 0 ≠ -1 → ∀ b, b ≤ R → srvB fits R k' b = true → gv.getD b 0 ≠ -1
  part : ∀ b', b' < b → b' ≤ R → srvB fits R k b' = true → gv.getD b' 0 ≠ -1
theorem KMid.take {rws : List (Nat × List Int)} {fits : List (List Bool)} {R r1 a : Nat} {G : Nat → Bool} {tk gv : List Int} {done : List Nat} {x : Nat} {q : List Nat} {k : Nat} (h : KMid rws fits R r1 a G tk gv done x q k) (hk : k < rws.length) (hn : rws.length ≤ 64) (h0 : tk.getD k 0 = -1) : BMid rws fits R r1 a G (tk.set k (x : Int)) gv done x q k 0 :=
  ⟨h.core.take hk hn h0, h.goal, fun k' h1 h2 h3 => by
    rw [getD_set_ne' (Ne.symm h2)] at h3
    exact h.full k' h1 h3, fun b' h => by omega⟩
theorem BMid.skip {rws : List (Nat × List Int)} {fits : List (List Bool)} {R r1 a : Nat} {G : Nat → Bool} {tk gv : List Int} {done : List Nat} {x : Nat} {q : List Nat} {k b : Nat} (h : BMid rws fits R r1 a G tk gv done x q k b) (hb : gv.getD b 0 ≠ -1 ∨ srvB fits R k b = false) : BMid rws fits R r1 a G tk gv done x q k (b + 1) :=
  ⟨h.core, h.goal, h.full, fun b' h1 h2 h3 => by
    by_cases e : b' = b
    · subst e
      rcases hb with hb | hb
      · exact hb
      · rw [hb] at h3; cases h3
    · exact h.part b' (by omega) h2 h3⟩
theorem BMid.give {rws : List (Nat × List Int)} {fits : List (List Bool)} {R r1 a : Nat} {G : Nat → Bool} {tk gv : List Int} {done : List Nat} {x : Nat} {q : List Nat} {k b : Nat} (h : BMid rws fits R r1 a G tk gv done x q k b) (hR : R ≤ 64) (hk : k < rws.length) (hr : r1 ≤ k) (hb : b ≤ R) (h0 : gv.getD b 0 = -1) (htk : tk.getD k 0 = (x : Int)) (ha : amt rws k x ≠ 0) (hs : srvB fits R k b = true) :
    Core rws fits R r1 a tk (gv.set b (k : Int)) ((done ++ x :: q) ++ [b]) ∧ b ≠ a ∧ (G b = false → BMid rws fits R r1 a G tk (gv.set b (k : Int)) done x (q ++ [b]) k (b + 1)) := by
  have hc := h.core.give hR hk hr hb h0 (by simp) htk ha hs
  have hba : b ≠ a := fun e => by
    subst e
    have := h.core.hd.2
    omega
  have hgl := h.core.lgv
  have keep : ∀ c, gv.getD c 0 ≠ -1 → (gv.set b (k : Int)).getD c 0 ≠ -1 := fun c hc => by
    by_cases e : b = c
    · subst e; rw [getD_set_self' (by omega)]; omega
    · rw [getD_set_ne' e]; exact hc
  have e : done ++ x :: (q ++ [b]) = (done ++ x :: q) ++ [b] := by simp
  refine ⟨hc, hba, fun hG => ⟨by rw [e]; exact hc, fun c hc' hne => ?_, fun k' h1 h2 h3 c hc1 hc2 => keep c (h.full k' h1 h2 h3 c hc1 hc2), fun c h1 h2 h3 => ?_⟩⟩
  · rw [e] at hc'
    rcases List.mem_append.1 hc' with hc' | hc'
    · exact h.goal c hc' hne
    · simp at hc'; subst hc'; exact hG
  · by_cases e : c = b
    · subst e; rw [getD_set_self' (by omega)]; omega
    · exact keep c (h.part c (by omega) h2 h3)
theorem del_mid {x : Res} : ∀ {l r : List Res}, Del (l ++ x :: r) x (l ++ r)
  | [], _ => .here
  | _ :: _, _ => .there del_mid
set_option maxHeartbeats 16000000 in
set_option maxRecDepth 20000 in
theorem search_fn (M : Mem) (o : Loc) (A0 : Option Addr) (c0 : Nat) (fits : List (List Bool)) (hf : Fits2 M (.slice A0 fits.length c0) fits) (ho : o.fs = .slice A0 fits.length c0) (ho1 : o.cm ≤ 9223372036854775807) (ho2 : o.cl ≤ 9223372036854775807) (rws : List (Nat × List Int)) (lack tk gv : List Int) (hl : lack.length ≤ 64) (hn : rws.length ≤ 64) (hfl : fits.length = rws.length) (hrows : ∀ r ∈ fits, r.length = lack.length) (hrw : ∀ x ∈ rws, x.2.length = lack.length + 1)
    (hI : ∀ x ∈ rws, ∀ v ∈ x.2, 0 ≤ v ∧ v ≤ 1048576) (ltk : tk.length = 64) (lgv : gv.length = 65) (a r1 : Nat) (ha : a ≤ lack.length) (hr1 : r1 ≤ 64) (f : FuncId) (cap : List Value) (G : Nat → Bool) (Gs : List Res)
    (hG : ∀ tk gv b, b ≤ lack.length → Bf.Fn Try.prog f ([.int .i64 (b : Int)] ++ cap) M (stL o (lack.length + 1) rws lack tk gv ++ Gs) (fun r M' A' => r = .bool (G b) ∧ M = M' ∧ A' = stL o (lack.length + 1) rws lack tk gv ++ Gs)) :
    Bf.Fn Try.prog 45 [.pointer (some ⟨o.sb, 0, none⟩), .int .i64 (a : Int), .int .i64 ((r1 : Int) - 1), .func (.func f) #[] cap.toArray] M (stL o (lack.length + 1) rws lack tk gv ++ Gs)
      (fun r M' A' => ∃ (to : Nat) (ok : Bool) (tk' gv' : List Int), r = .tuple #[.int .i64 (to : Int), .bool ok] ∧ M = M' ∧ A' = stL o (lack.length + 1) rws lack tk' gv' ++ Gs ∧ Found rws fits lack.length r1 a G tk' gv' to ok) := by
  refine Fn.intro Try.func45 rfl rfl Try.ntmps45 rfl fun E F => ?_
  simp only [stL, List.cons_append, List.nil_append, List.append_assoc]
  obtain ⟨sb, fs, Am, cm, Al, cl⟩ := o
  simp only at ho ho1 ho2 hG ⊢
  subst ho
  generalize hR : lack.length = R at *
  have hperm : ∀ (tk gv : List Int) (Q : Res), ((stL ⟨sb, .slice A0 fits.length c0, Am, cm, Al, cl⟩ (R + 1) rws lack tk gv ++ Gs) ++ Q :: F).Perm (Q :: box sb 56 (stC (.slice A0 fits.length c0) (.slice Am rws.length cm) (.slice Al R cl) tk gv) :: ownS 23 1 Am rws.length cm (ptrV (R + 1) rws) :: rowsR rws :: ownS 3 1 Al R cl (intV lack) :: (Gs ++ F)) := by
    intro tk gv Q
    subst hR
    exact List.perm_middle
  repeat (first | ((with_reducible refine Tr.step rfl ?_); (first | ((with_reducible refine Knd.move ?_); (refine Exec.stab rfl (Stab.move rfl) rfl ?_)) | ((with_reducible refine Knd.assign ?_); (refine Exec.stab rfl (Stab.assign rfl) rfl ?_)))) | (with_reducible refine Tr.next ?_) | (with_reducible refine Tr.seq ?_) | (with_reducible refine Tr.region ?_) | (with_reducible refine Tr.nil ?_) | (with_reducible refine Tr.block ?_))
  refine Tr.loop (α := Nat × List Int) (fun y => ⟨123, [(15, .int .i64 y.1), (0, .pointer (some ⟨sb, 0, none⟩)), (1, .int .i64 (a : Int)), (2, .int .i64 ((r1 : Int) - 1)), (3, .func (.func f) #[] cap.toArray)], [], M, box sb 56 (stC (.slice A0 fits.length c0) (.slice Am rws.length cm) (.slice Al R cl) y.2 gv) :: ownS 23 1 Am rws.length cm (ptrV (R + 1) rws) :: rowsR rws :: ownS 3 1 Al R cl (intV lack) :: (Gs ++ F)⟩)
    (fun y => y.1 ≤ 64 ∧ y.2.length = 64 ∧ ∀ k, k < y.1 → y.2.getD k 0 = -1) (fun y => 64 - y.1) (0, tk) ⟨by simp, ltk, by simp⟩ (holds_sub (by repeat (first | exact SubFr.nil | refine SubFr.cons rfl ?_)) (by repeat (first | exact DropL.refl | apply DropL.skip))) (fun y hy => ?_)
  obtain ⟨i, tk1⟩ := y
  obtain ⟨hi, hl1, hall⟩ := hy
  simp only at hi hl1 hall
  dsimp only
  by_cases hlt : i < 64
  · have hlen : (stC (.slice A0 fits.length c0) (.slice Am rws.length cm) (.slice Al R cl) tk1 gv).length = 132 := by simp [stC, hl1, lgv]
    repeat (first | ((with_reducible refine Tr.step rfl ?_); (first | ((with_reducible refine Knd.move ?_); (refine Exec.stab rfl (Stab.move rfl) rfl ?_)) | ((with_reducible refine Knd.assign ?_); (refine Exec.stab rfl (Stab.assign rfl) rfl ?_)) | ((with_reducible refine Knd.fieldAddr ?_); ((refine Exec.stab rfl (Stab.fieldZ rfl (tysOk.get rfl) rfl rfl (tysOk.get rfl) rfl) rfl ?_))) | ((with_reducible refine Knd.nilCheck ?_); (refine Exec.stab rfl (Stab.nilCheck rfl) rfl ?_)) | ((with_reducible refine Knd.binOp ?_); (first | (refine Exec.stab rfl (Stab.addi rfl rfl (by omega)) rfl ?_) | (refine Exec.stab rfl (Stab.int rfl rfl rfl) rfl ?_))) | ((with_reducible refine Knd.store ?_); ((refine Exec.storeS rfl rfl (tysOk.get rfl) rfl (by first | rfl | assumption) (by repeat (first | exact Upd.here | apply Upd.there)) (by omega) ?_))) | ((with_reducible refine Knd.indexAddr ?_); ((refine Exec.stab rfl (Stab.indexArrB rfl rfl (tysOk.get rfl) rfl (tysOk.get rfl) rfl (by omega) (by omega)) rfl ?_))))) | (with_reducible refine Tr.next ?_) | (with_reducible refine Tr.seq ?_) | (with_reducible refine Tr.region ?_) | (with_reducible refine Tr.nil ?_) | (with_reducible refine Tr.skip ?_) | (with_reducible refine Tr.block ?_) | (with_reducible refine Tr.in_normal ?_) | (refine Tr.cond_t rfl (by first | (with_reducible assumption) | (with_reducible rfl) | (with_reducible exact (not_not_intro rfl)) | omega) ?_))
    refine Tr.cells (cs' := stC (.slice A0 fits.length c0) (.slice Am rws.length cm) (.slice Al R cl) (tk1.set i (-1)) gv) (by repeat (first | exact Upd.here | apply Upd.there)) (stC_tk (by omega)) ?_
    repeat (fail)
    refine Tr.again (i + 1, tk1.set i (-1)) ⟨by simp only; omega, by simpa using hl1, fun k hk => ?_⟩ (by simp only; omega) (holds_sub (by repeat (first | exact SubFr.nil | refine SubFr.cons rfl ?_)) (by repeat (first | exact DropL.refl | apply DropL.skip)))
    simp only at hk ⊢
    by_cases e : i = k
    · subst e; exact getD_set_self' (by omega)
    · rw [getD_set_ne' e]; exact hall k (by omega)
  have e : i = 64 := by omega
  subst e
  repeat (first | ((with_reducible refine Tr.step rfl ?_); (first | ((with_reducible refine Knd.move ?_); (refine Exec.stab rfl (Stab.move rfl) rfl ?_)) | ((with_reducible refine Knd.binOp ?_); ((refine Exec.stab rfl (Stab.int rfl rfl rfl) rfl ?_))))) | (with_reducible refine Tr.next ?_) | (with_reducible refine Tr.seq ?_) | (with_reducible refine Tr.region ?_) | (with_reducible refine Tr.nil ?_) | (with_reducible refine Tr.block ?_) | (with_reducible refine Tr.exit ?_) | (with_reducible refine Tr.then_exit ?_) | ((with_reducible refine Tr.in_exit ?_ ?_); (exact rfl)) | (refine Tr.cond_f rfl (by first | (with_reducible assumption) | (with_reducible rfl) | (with_reducible exact (not_not_intro rfl)) | omega) ?_))
  refine Tr.loop (α := Nat × List Int) (fun y => ⟨123, [(24, .int .i64 y.1), (0, .pointer (some ⟨sb, 0, none⟩)), (1, .int .i64 (a : Int)), (2, .int .i64 ((r1 : Int) - 1)), (3, .func (.func f) #[] cap.toArray)], [], M, box sb 56 (stC (.slice A0 fits.length c0) (.slice Am rws.length cm) (.slice Al R cl) tk1 y.2) :: ownS 23 1 Am rws.length cm (ptrV (R + 1) rws) :: rowsR rws :: ownS 3 1 Al R cl (intV lack) :: (Gs ++ F)⟩)
    (fun y => y.1 ≤ 65 ∧ y.2.length = 65 ∧ ∀ k, k < y.1 → y.2.getD k 0 = -1) (fun y => 65 - y.1) (0, gv) ⟨by simp, lgv, by simp⟩ (holds_sub (by repeat (first | exact SubFr.nil | refine SubFr.cons rfl ?_)) (by repeat (first | exact DropL.refl | apply DropL.skip))) (fun y hy => ?_)
  obtain ⟨i, gv1⟩ := y
  obtain ⟨hi, hl2, hall2⟩ := hy
  simp only at hi hl2 hall2
  dsimp only
  have hlen : (stC (.slice A0 fits.length c0) (.slice Am rws.length cm) (.slice Al R cl) tk1 gv1).length = 132 := by simp [stC, hl1, hl2]
  by_cases hlt : i < 65
  · repeat (first | ((with_reducible refine Tr.step rfl ?_); (first | ((with_reducible refine Knd.move ?_); (refine Exec.stab rfl (Stab.move rfl) rfl ?_)) | ((with_reducible refine Knd.assign ?_); (refine Exec.stab rfl (Stab.assign rfl) rfl ?_)) | ((with_reducible refine Knd.fieldAddr ?_); ((refine Exec.stab rfl (Stab.fieldZ rfl (tysOk.get rfl) rfl rfl (tysOk.get rfl) rfl) rfl ?_))) | ((with_reducible refine Knd.nilCheck ?_); (refine Exec.stab rfl (Stab.nilCheck rfl) rfl ?_)) | ((with_reducible refine Knd.binOp ?_); (first | (refine Exec.stab rfl (Stab.addi rfl rfl (by omega)) rfl ?_) | (refine Exec.stab rfl (Stab.int rfl rfl rfl) rfl ?_))) | ((with_reducible refine Knd.store ?_); ((refine Exec.storeS rfl rfl (tysOk.get rfl) rfl (by first | rfl | assumption) (by repeat (first | exact Upd.here | apply Upd.there)) (by omega) ?_))) | ((with_reducible refine Knd.indexAddr ?_); ((refine Exec.stab rfl (Stab.indexArrB rfl rfl (tysOk.get rfl) rfl (tysOk.get rfl) rfl (by omega) (by omega)) rfl ?_))))) | (with_reducible refine Tr.next ?_) | (with_reducible refine Tr.seq ?_) | (with_reducible refine Tr.region ?_) | (with_reducible refine Tr.nil ?_) | (with_reducible refine Tr.skip ?_) | (with_reducible refine Tr.block ?_) | (with_reducible refine Tr.in_normal ?_) | (refine Tr.cond_t rfl (by first | (with_reducible assumption) | (with_reducible rfl) | (with_reducible exact (not_not_intro rfl)) | omega) ?_))
    refine Tr.cells (cs' := stC (.slice A0 fits.length c0) (.slice Am rws.length cm) (.slice Al R cl) tk1 (gv1.set i (-1))) (by repeat (first | exact Upd.here | apply Upd.there)) (stC_gv hl1) ?_
    repeat (fail)
    refine Tr.again (i + 1, gv1.set i (-1)) ⟨by simp only; omega, by simpa using hl2, fun k hk => ?_⟩ (by simp only; omega) (holds_sub (by repeat (first | exact SubFr.nil | refine SubFr.cons rfl ?_)) (by repeat (first | exact DropL.refl | apply DropL.skip)))
    simp only at hk ⊢
    by_cases e : i = k
    · subst e; exact getD_set_self' (by omega)
    · rw [getD_set_ne' e]; exact hall2 k (by omega)
  have e : i = 65 := by omega
  subst e
  have hall3 := hall
  have core := Core.start (rws := rws) (fits := fits) (r1 := r1) hl1 hl2 hall hall2 hl ha hn
  repeat (first | ((with_reducible refine Tr.step rfl ?_); (first | ((with_reducible refine Knd.move ?_); (refine Exec.stab rfl (Stab.move rfl) rfl ?_)) | ((with_reducible refine Knd.assign ?_); (refine Exec.stab rfl (Stab.assign rfl) rfl ?_)) | ((with_reducible refine Knd.fieldAddr ?_); ((refine Exec.stab rfl (Stab.fieldZ rfl (tysOk.get rfl) rfl rfl (tysOk.get rfl) rfl) rfl ?_))) | ((with_reducible refine Knd.nilCheck ?_); (refine Exec.stab rfl (Stab.nilCheck rfl) rfl ?_)) | ((with_reducible refine Knd.binOp ?_); ((refine Exec.stab rfl (Stab.int rfl rfl rfl) rfl ?_))) | ((with_reducible refine Knd.store ?_); ((refine Exec.storeS rfl rfl (tysOk.get rfl) rfl (by first | rfl | assumption) (by repeat (first | exact Upd.here | apply Upd.there)) (by omega) ?_))) | ((with_reducible refine Knd.indexAddr ?_); ((refine Exec.stab rfl (Stab.indexArrB rfl rfl (tysOk.get rfl) rfl (tysOk.get rfl) rfl (by omega) (by omega)) rfl ?_))) | ((with_reducible refine Knd.buildSlice ?_); ((refine Exec.buildSlice (tysOk.get rfl) rfl (tysOk.get rfl) rfl rfl rfl rfl rfl (by repeat (first | exact BuildP.nil | ((apply BuildP.one); (rfl); (rfl); (first | rfl | assumption); (repeat (first | exact SetL.z | apply SetL.s))))) rfl (fun b => ?_)))))) | (with_reducible refine Tr.next ?_) | (with_reducible refine Tr.seq ?_) | (with_reducible refine Tr.region ?_) | (with_reducible refine Tr.nil ?_) | (with_reducible refine Tr.block ?_) | (with_reducible refine Tr.exit ?_) | (with_reducible refine Tr.then_exit ?_) | ((with_reducible refine Tr.in_exit ?_ ?_); (exact rfl)) | (refine Tr.cond_f rfl (by first | (with_reducible assumption) | (with_reducible rfl) | (with_reducible exact (not_not_intro rfl)) | omega) ?_))
  refine Tr.cells (cs' := stC (.slice A0 fits.length c0) (.slice Am rws.length cm) (.slice Al R cl) tk1 (gv1.set a (-2))) (by repeat (first | exact Upd.here | apply Upd.there)) (stC_gv hl1) ?_
  repeat (fail)
  refine Tr.toQ (x := box _ 3 _) (y := ownQ 3 (some ⟨b, 0, none⟩) 1 1 (qV [a])) (by repeat (first | exact Del.here | apply Del.there)) (fun h hb => ownQ_of_box rfl hb) rfl ?_
  clear hlen hall hall2
  have mid : Mid rws fits R r1 a G tk1 (gv1.set a (-2)) [] [a] := ⟨core, fun b hb hne => absurd (by simpa using hb) hne, by simp, fun k hk h => absurd (hall3 k (by omega)) h⟩
  refine Tr.loop (α := List Int × List Int × List Nat × List Nat × Option Addr × Nat) (fun y => ⟨123, [(12, .slice y.2.2.2.2.1 y.2.2.2.1.length y.2.2.2.2.2), (0, .pointer (some ⟨sb, 0, none⟩)), (2, .int .i64 ((r1 : Int) - 1)), (3, .func (.func f) #[] cap.toArray)], [], M, ownQ 3 y.2.2.2.2.1 y.2.2.2.1.length y.2.2.2.2.2 (qV y.2.2.2.1) :: box sb 56 (stC (.slice A0 fits.length c0) (.slice Am rws.length cm) (.slice Al R cl) y.1 y.2.1) :: ownS 23 1 Am rws.length cm (ptrV (R + 1) rws) :: rowsR rws :: ownS 3 1 Al R cl (intV lack) :: (Gs ++ F)⟩)
    (fun y => Mid rws fits R r1 a G y.1 y.2.1 y.2.2.1 y.2.2.2.1 ∧ y.2.2.2.2.2 ≤ 9223372036854775807) (fun y => 2 * (R + 1 - (y.2.2.1 ++ y.2.2.2.1).length) + y.2.2.2.1.length) (tk1, gv1.set a (-2), [], [a], _, 1) ⟨mid, by simp⟩ (holds_sub (by repeat (first | exact SubFr.nil | refine SubFr.cons rfl ?_)) (by repeat (first | exact DropL.refl | apply DropL.skip))) (fun y hy => ?_)
  clear mid core
  obtain ⟨tk, gv, done, q, A, c⟩ := y
  obtain ⟨mid, hc63⟩ := hy
  simp only at mid hc63
  dsimp only
  have hcnt := mid.core.count
  rcases q with _ | ⟨x, q⟩
  · rw [List.length_nil]
    repeat (first | ((with_reducible refine Tr.step rfl ?_); (first | ((with_reducible refine Knd.move ?_); (refine Exec.stab rfl (Stab.move rfl) rfl ?_)) | ((with_reducible refine Knd.assign ?_); (refine Exec.stab rfl (Stab.assign rfl) rfl ?_)) | ((with_reducible refine Knd.len ?_); ((refine Exec.stab rfl (Stab.len rfl (tysOk.get rfl) rfl) rfl ?_))) | ((with_reducible refine Knd.binOp ?_); ((refine Exec.stab rfl (Stab.int rfl rfl rfl) rfl ?_))))) | (with_reducible refine Tr.next ?_) | (with_reducible refine Tr.seq ?_) | (with_reducible refine Tr.region ?_) | (with_reducible refine Tr.nil ?_) | (with_reducible refine Tr.exit ?_) | (with_reducible refine Tr.ret ?_) | (with_reducible refine Tr.then_exit ?_) | ((with_reducible refine Tr.in_exit ?_ ?_); (exact rfl)) | (refine Tr.cond_f rfl (by first | (with_reducible assumption) | (with_reducible rfl) | (with_reducible exact (not_not_intro rfl)) | omega) ?_))
    refine Tr.give (r := ownQ 3 _ _ _ _) (by repeat (first | exact Del.here | apply Del.there)) ?_
    refine Tr.doneA (A' := stL ⟨sb, .slice A0 fits.length c0, Am, cm, Al, cl⟩ (R + 1) rws lack tk gv ++ Gs) (by first | exact .inl rfl | exact .inr rfl) rfl (by repeat (first | exact RVs.nil | (apply RVs.cons; (exact RV.tmp rfl)))) (Mem.le.refl _) ⟨fun r hr => by subst hR; simpa [stL] using hr, fun h => by subst hR; simpa [stL] using h⟩ ⟨0, false, tk, gv, rfl, rfl, by simp [stL, hR], mid.found⟩
  have hq0 : (x :: q).length = q.length + 1 := rfl
  simp only [List.length_append] at hcnt
  rw [hq0] at hcnt ⊢
  have hqv : qV (x :: q) = .int .i64 (x : Int) :: qV q := rfl
  rw [hqv]
  have hxR : x ≤ R := mid.core.le x (by simp)
  refine Tr.queue_some A (by repeat (first | exact Has.here | apply Has.there)) (fun hAs => ?_)
  repeat (first | ((with_reducible refine Tr.step rfl ?_); (first | ((with_reducible refine Knd.move ?_); (refine Exec.stab rfl (Stab.move rfl) rfl ?_)) | ((with_reducible refine Knd.assign ?_); (refine Exec.stab rfl (Stab.assign rfl) rfl ?_)) | ((with_reducible refine Knd.load ?_); ((refine Exec.stab rfl (Stab.loadQ rfl (tysOk.get rfl) rfl (by repeat (first | exact Has.here | apply Has.there))) rfl ?_))) | ((with_reducible refine Knd.len ?_); ((refine Exec.stab rfl (Stab.len rfl (tysOk.get rfl) rfl) rfl ?_))) | ((with_reducible refine Knd.binOp ?_); (first | (refine Exec.stab rfl (Stab.addi rfl rfl (by omega)) rfl ?_) | (refine Exec.stab rfl (Stab.int rfl rfl rfl) rfl ?_))) | ((with_reducible refine Knd.indexAddr ?_); ((refine Exec.stab rfl (Stab.indexAddr rfl rfl (tysOk.get rfl) rfl (tysOk.get rfl) rfl (by omega) (by omega) (by first | rfl | assumption)) rfl ?_))) | ((with_reducible refine Knd.slice ?_); ((refine Exec.stab rfl (Stab.slice_l rfl rfl (tysOk.get rfl) rfl (tysOk.get rfl) rfl (by omega) (by omega)) rfl ?_))))) | (with_reducible refine Tr.next ?_) | (with_reducible refine Tr.seq ?_) | (with_reducible refine Tr.region ?_) | (with_reducible refine Tr.nil ?_) | (with_reducible refine Tr.skip ?_) | (with_reducible refine Tr.block ?_) | (refine Tr.cond_t rfl (by first | (with_reducible assumption) | (with_reducible rfl) | (with_reducible exact (not_not_intro rfl)) | omega) ?_))
  rw [show (r1 : Int) - 1 + 1 = (r1 : Int) by omega]
  refine Tr.toQ (x := ownQ 3 A _ c _) (y := ownQ 3 (if c = 1 then A else A.map (·.add (1 * 1))) q.length (c - 1) (qV q)) (by repeat (first | exact Del.here | apply Del.there)) (fun h hb => ownQ_tail hb) (ownQ_blks _ _ _ _ _ _ _ _ _) ?_
  refine Tr.loop (α := Nat × List Int × List Int × List Nat × Option Addr × Nat) (fun y => ⟨123, [(13, .int .i64 (y.1 : Int)), (12, .slice y.2.2.2.2.1 y.2.2.2.1.length y.2.2.2.2.2), (1, .int .i64 (x : Int)), (0, .pointer (some ⟨sb, 0, none⟩)), (2, .int .i64 ((r1 : Int) - 1)), (3, .func (.func f) #[] cap.toArray)], [], M, ownQ 3 y.2.2.2.2.1 y.2.2.2.1.length y.2.2.2.2.2 (qV y.2.2.2.1) :: box sb 56 (stC (.slice A0 fits.length c0) (.slice Am rws.length cm) (.slice Al R cl) y.2.1 y.2.2.1) :: ownS 23 1 Am rws.length cm (ptrV (R + 1) rws) :: rowsR rws :: ownS 3 1 Al R cl (intV lack) :: (Gs ++ F)⟩)
    (fun y => r1 ≤ y.1 ∧ (y.1 ≤ rws.length ∨ y.1 = r1) ∧ y.2.2.2.2.2 ≤ 9223372036854775807 ∧ q.length ≤ y.2.2.2.1.length ∧ KMid rws fits R r1 a G y.2.1 y.2.2.1 done x y.2.2.2.1 y.1) (fun y => rws.length - y.1) (r1, tk, gv, q, _, c - 1) ⟨Nat.le_refl _, .inr rfl, by simp only; omega, Nat.le_refl _, KMid.start mid⟩ (holds_sub (by repeat (first | exact SubFr.nil | refine SubFr.cons rfl ?_)) (by repeat (first | exact DropL.refl | apply DropL.skip))) (fun y hy => ?_)
  clear mid hAs
  obtain ⟨k, tk, gv, q2, A2, c2⟩ := y
  obtain ⟨hk1, hk2, hc2, hq2, km⟩ := hy
  simp only at hk1 hk2 hc2 hq2 km
  dsimp only
  have hcnt2 := km.core.count
  simp only [List.length_append, List.length_cons] at hcnt2
  by_cases hkn : k < rws.length
  rotate_left
  · repeat (first | ((with_reducible refine Tr.step rfl ?_); (first | ((with_reducible refine Knd.move ?_); (refine Exec.stab rfl (Stab.move rfl) rfl ?_)) | ((with_reducible refine Knd.load ?_); ((refine Exec.stab rfl (Stab.load rfl (tysOk.get rfl) rfl (by repeat (first | exact Has.here | apply Has.there)) rfl) rfl ?_))) | ((with_reducible refine Knd.fieldAddr ?_); ((refine Exec.stab rfl (Stab.fieldZ rfl (tysOk.get rfl) rfl rfl (tysOk.get rfl) rfl) rfl ?_))) | ((with_reducible refine Knd.len ?_); ((refine Exec.stab rfl (Stab.len rfl (tysOk.get rfl) rfl) rfl ?_))) | ((with_reducible refine Knd.nilCheck ?_); (refine Exec.stab rfl (Stab.nilCheck rfl) rfl ?_)) | ((with_reducible refine Knd.binOp ?_); ((refine Exec.stab rfl (Stab.int rfl rfl rfl) rfl ?_))))) | (with_reducible refine Tr.next ?_) | (with_reducible refine Tr.seq ?_) | (with_reducible refine Tr.region ?_) | (with_reducible refine Tr.nil ?_) | (with_reducible refine Tr.exit ?_) | (with_reducible refine Tr.then_exit ?_) | (with_reducible refine Tr.in_normal ?_) | ((with_reducible refine Tr.in_exit ?_ ?_); (exact rfl)) | (refine Tr.cond_f rfl (by first | (with_reducible assumption) | (with_reducible rfl) | (with_reducible exact (not_not_intro rfl)) | omega) ?_))
    refine Tr.again (tk, gv, done ++ [x], q2, A2, c2) ⟨km.fin (by omega), hc2⟩ (by simp only [List.length_append, List.length_cons, List.length_nil]; omega) (holds_sub (by repeat (first | exact SubFr.nil | refine SubFr.cons rfl ?_)) (by repeat (first | exact DropL.refl | apply DropL.skip)))
  obtain ⟨⟨bk, row⟩, hrk⟩ := get_of_lt hkn
  have hrl : row.length = R + 1 := hrw _ (List.mem_of_getElem? hrk)
  obtain ⟨v, hv⟩ := get_of_lt (xs := row) (i := x) (by omega)
  have hv' : nthL (intV row) x = some (.int .i64 v) := by rw [nthL_eq]; exact intV_get hv
  have hp : (ptrV (R + 1) rws)[k]? = some (.slice (some ⟨bk, 0, none⟩) (R + 1) (R + 1)) := by simp [ptrV, hrk]
  have htk := stC_tkAt (fs := .slice A0 fits.length c0) (am := .slice Am rws.length cm) (lk := .slice Al R cl) (gv := gv) (k := k) (show k < tk.length by have := km.core.ltk; omega)
  have hamt : amt rws k x = v := by
    unfold amt
    rw [getD_of (d := []) (show (rws.map (·.2))[k]? = some row by simp [hrk]), getD_of (d := 0) hv]
  have hlen : (stC (.slice A0 fits.length c0) (.slice Am rws.length cm) (.slice Al R cl) tk gv).length = 132 := by simp [stC, km.core.ltk, km.core.lgv]
  refine Tr.own_some Am (by repeat (first | exact Has.here | apply Has.there)) (by omega) (fun hAm => ?_)
  by_cases ht : tk.getD k 0 = -1
  rotate_left
  · repeat (first | ((with_reducible refine Tr.step rfl ?_); (first | ((with_reducible refine Knd.move ?_); (refine Exec.stab rfl (Stab.move rfl) rfl ?_)) | ((with_reducible refine Knd.assign ?_); (refine Exec.stab rfl (Stab.assign rfl) rfl ?_)) | ((with_reducible refine Knd.load ?_); (first | (refine Exec.stab rfl (Stab.load rfl (tysOk.get rfl) rfl (by repeat (first | exact Has.here | apply Has.there)) rfl) rfl ?_) | (refine Exec.stab rfl (Stab.load rfl (tysOk.get rfl) rfl (by repeat (first | exact Has.here | apply Has.there)) (by assumption)) rfl ?_))) | ((with_reducible refine Knd.fieldAddr ?_); ((refine Exec.stab rfl (Stab.fieldZ rfl (tysOk.get rfl) rfl rfl (tysOk.get rfl) rfl) rfl ?_))) | ((with_reducible refine Knd.len ?_); ((refine Exec.stab rfl (Stab.len rfl (tysOk.get rfl) rfl) rfl ?_))) | ((with_reducible refine Knd.nilCheck ?_); (refine Exec.stab rfl (Stab.nilCheck rfl) rfl ?_)) | ((with_reducible refine Knd.binOp ?_); (first | (refine Exec.stab rfl (Stab.addi rfl rfl (by omega)) rfl ?_) | (refine Exec.stab rfl (Stab.int rfl rfl rfl) rfl ?_))) | ((with_reducible refine Knd.pick ?_); ((refine Exec.stab rfl (Stab.pick_td rfl (by first | (with_reducible assumption) | (with_reducible rfl) | (with_reducible exact (not_not_intro rfl)) | omega) rfl) rfl ?_))) | ((with_reducible refine Knd.indexAddr ?_); ((refine Exec.stab rfl (Stab.indexArrB rfl rfl (tysOk.get rfl) rfl (tysOk.get rfl) rfl (by omega) (by omega)) rfl ?_))))) | (with_reducible refine Tr.next ?_) | (with_reducible refine Tr.seq ?_) | (with_reducible refine Tr.region ?_) | (with_reducible refine Tr.nil ?_) | (refine Tr.guard_n' rfl rfl rfl (by first | (with_reducible assumption) | (with_reducible rfl) | (with_reducible exact (not_not_intro rfl)) | omega) rfl rfl ?_) | (with_reducible refine Tr.skip ?_) | (with_reducible refine Tr.block ?_) | (with_reducible refine Tr.exit ?_) | (with_reducible refine Tr.then_exit ?_) | ((with_reducible refine Tr.in_exit ?_ ?_); (exact rfl)) | (refine Tr.cond_bt rfl (by first | (with_reducible rfl) | (with_reducible assumption) | (with_reducible exact Bool.not_true) | (with_reducible exact Bool.not_false)) ?_) | (refine Tr.cond_t rfl (by first | (with_reducible assumption) | (with_reducible rfl) | (with_reducible exact (not_not_intro rfl)) | omega) ?_))
    rw [show (k : Int) + 1 = ((k + 1 : Nat) : Int) by omega]
    refine Tr.again (k + 1, tk, gv, q2, A2, c2) ⟨by simp only; omega, .inl (by simp only; omega), hc2, hq2, km.skip (.inl ht)⟩ (by simp only; omega) (holds_sub (by repeat (first | exact SubFr.nil | refine SubFr.cons rfl ?_)) (by repeat (first | exact DropL.refl | apply DropL.skip)))
  rw [ht] at htk
  by_cases hv0 : v = 0
  · unfold rowsR
    refine Tr.many_out (by repeat (first | exact Del.here | apply Del.there)) (rows_get hrk) ?_
    repeat (first | ((with_reducible refine Tr.step rfl ?_); (first | ((with_reducible refine Knd.move ?_); (refine Exec.stab rfl (Stab.move rfl) rfl ?_)) | ((with_reducible refine Knd.assign ?_); (refine Exec.stab rfl (Stab.assign rfl) rfl ?_)) | ((with_reducible refine Knd.load ?_); (first | (refine Exec.stab rfl (Stab.load rfl (tysOk.get rfl) rfl (by repeat (first | exact Has.here | apply Has.there)) rfl) rfl ?_) | (refine Exec.stab rfl (Stab.load rfl (tysOk.get rfl) rfl (by repeat (first | exact Has.here | apply Has.there)) (by assumption)) rfl ?_))) | ((with_reducible refine Knd.fieldAddr ?_); ((refine Exec.stab rfl (Stab.fieldZ rfl (tysOk.get rfl) rfl rfl (tysOk.get rfl) rfl) rfl ?_))) | ((with_reducible refine Knd.len ?_); ((refine Exec.stab rfl (Stab.len rfl (tysOk.get rfl) rfl) rfl ?_))) | ((with_reducible refine Knd.nilCheck ?_); (refine Exec.stab rfl (Stab.nilCheck rfl) rfl ?_)) | ((with_reducible refine Knd.binOp ?_); (first | (refine Exec.stab rfl (Stab.addi rfl rfl (by omega)) rfl ?_) | (refine Exec.stab rfl (Stab.int rfl rfl rfl) rfl ?_))) | ((with_reducible refine Knd.pick ?_); ((refine Exec.stab rfl (Stab.pick_fd rfl (by first | (with_reducible assumption) | (with_reducible rfl) | (with_reducible exact (not_not_intro rfl)) | omega) rfl) rfl ?_))) | ((with_reducible refine Knd.indexAddr ?_); ((refine Exec.stab rfl (Stab.indexArrB rfl rfl (tysOk.get rfl) rfl (tysOk.get rfl) rfl (by omega) (by omega)) rfl ?_))))) | (with_reducible refine Tr.next ?_) | (with_reducible refine Tr.seq ?_) | (with_reducible refine Tr.region ?_) | (with_reducible refine Tr.nil ?_) | ((refine Tr.guard_y' rfl rfl rfl (by first | (with_reducible assumption) | (with_reducible rfl) | (with_reducible exact (not_not_intro rfl)) | omega) ?_); (first | ((with_reducible refine Knd.move ?_); (refine Exec.stab rfl (Stab.move rfl) rfl ?_)) | ((with_reducible refine Knd.load ?_); (first | (refine Exec.stab rfl (Stab.load rfl (tysOk.get rfl) rfl (by repeat (first | exact Has.here | apply Has.there)) rfl) rfl ?_) | (refine Exec.stab rfl (Stab.load rfl (tysOk.get rfl) rfl (by repeat (first | exact Has.here | apply Has.there)) (by assumption)) rfl ?_) | (refine Exec.stab rfl (Stab.loadO rfl (tysOk.get rfl) rfl (by repeat (first | exact Has.here | apply Has.there)) (by assumption)) rfl ?_))) | ((with_reducible refine Knd.fieldAddr ?_); ((refine Exec.stab rfl (Stab.fieldZ rfl (tysOk.get rfl) rfl rfl (tysOk.get rfl) rfl) rfl ?_))) | ((with_reducible refine Knd.nilCheck ?_); (refine Exec.stab rfl (Stab.nilCheck rfl) rfl ?_)) | ((with_reducible refine Knd.binOp ?_); ((refine Exec.stab rfl (Stab.int rfl rfl rfl) rfl ?_))) | ((with_reducible refine Knd.indexAddr ?_); (first | (refine Exec.stab rfl (Stab.indexB0 rfl rfl (tysOk.get rfl) rfl (tysOk.get rfl) rfl (by omega) (by omega)) rfl ?_) | (refine Exec.stab rfl (Stab.indexAddr rfl rfl (tysOk.get rfl) rfl (tysOk.get rfl) rfl (by omega) (by omega) (by first | rfl | assumption)) rfl ?_))))) | (with_reducible refine Tr.skip ?_) | (with_reducible refine Tr.block ?_) | (with_reducible refine Tr.exit ?_) | (with_reducible refine Tr.then_exit ?_) | ((with_reducible refine Tr.in_exit ?_ ?_); (exact rfl)) | (refine Tr.cond_t rfl (by first | (with_reducible assumption) | (with_reducible rfl) | (with_reducible exact (not_not_intro rfl)) | omega) ?_))
    refine Tr.many_in (rows_get hrk) ?_
    rw [rows_set, set_same hrk]
    refine Tr.front (x := ownS 23 1 _ _ _ _) (by repeat (first | exact Del.here | apply Del.there)) ?_
    refine Tr.front (x := box sb 56 _) (by repeat (first | exact Del.here | apply Del.there)) ?_
    refine Tr.front (x := ownQ 3 _ _ _ _) (by repeat (first | exact Del.here | apply Del.there)) ?_
    rw [show (k : Int) + 1 = ((k + 1 : Nat) : Int) by omega]
    refine Tr.again (k + 1, tk, gv, q2, A2, c2) ⟨by simp only; omega, .inl (by simp only; omega), hc2, hq2, km.skip (.inr (by rw [hamt]; exact hv0))⟩ (by simp only; omega) (holds_sub (by repeat (first | exact SubFr.nil | refine SubFr.cons rfl ?_)) (by repeat (first | exact DropL.refl | apply DropL.skip)))
  unfold rowsR
  refine Tr.many_out (by repeat (first | exact Del.here | apply Del.there)) (rows_get hrk) ?_
  repeat (first | ((with_reducible refine Tr.step rfl ?_); (first | ((with_reducible refine Knd.move ?_); (refine Exec.stab rfl (Stab.move rfl) rfl ?_)) | ((with_reducible refine Knd.load ?_); (first | (refine Exec.stab rfl (Stab.load rfl (tysOk.get rfl) rfl (by repeat (first | exact Has.here | apply Has.there)) rfl) rfl ?_) | (refine Exec.stab rfl (Stab.load rfl (tysOk.get rfl) rfl (by repeat (first | exact Has.here | apply Has.there)) (by assumption)) rfl ?_))) | ((with_reducible refine Knd.fieldAddr ?_); ((refine Exec.stab rfl (Stab.fieldZ rfl (tysOk.get rfl) rfl rfl (tysOk.get rfl) rfl) rfl ?_))) | ((with_reducible refine Knd.len ?_); ((refine Exec.stab rfl (Stab.len rfl (tysOk.get rfl) rfl) rfl ?_))) | ((with_reducible refine Knd.nilCheck ?_); (refine Exec.stab rfl (Stab.nilCheck rfl) rfl ?_)) | ((with_reducible refine Knd.binOp ?_); ((refine Exec.stab rfl (Stab.int rfl rfl rfl) rfl ?_))) | ((with_reducible refine Knd.pick ?_); ((refine Exec.stab rfl (Stab.pick_fd rfl (by first | (with_reducible assumption) | (with_reducible rfl) | (with_reducible exact (not_not_intro rfl)) | omega) rfl) rfl ?_))) | ((with_reducible refine Knd.store ?_); ((refine Exec.storeS rfl rfl (tysOk.get rfl) rfl (by first | rfl | assumption) (by repeat (first | exact Upd.here | apply Upd.there)) (by omega) ?_))) | ((with_reducible refine Knd.indexAddr ?_); ((refine Exec.stab rfl (Stab.indexArrB rfl rfl (tysOk.get rfl) rfl (tysOk.get rfl) rfl (by omega) (by omega)) rfl ?_))))) | (with_reducible refine Tr.next ?_) | (with_reducible refine Tr.seq ?_) | (with_reducible refine Tr.region ?_) | (with_reducible refine Tr.nil ?_) | ((refine Tr.guard_y' rfl rfl rfl (by first | (with_reducible assumption) | (with_reducible rfl) | (with_reducible exact (not_not_intro rfl)) | omega) ?_); (first | ((with_reducible refine Knd.move ?_); (refine Exec.stab rfl (Stab.move rfl) rfl ?_)) | ((with_reducible refine Knd.load ?_); (first | (refine Exec.stab rfl (Stab.load rfl (tysOk.get rfl) rfl (by repeat (first | exact Has.here | apply Has.there)) rfl) rfl ?_) | (refine Exec.stab rfl (Stab.load rfl (tysOk.get rfl) rfl (by repeat (first | exact Has.here | apply Has.there)) (by assumption)) rfl ?_) | (refine Exec.stab rfl (Stab.loadO rfl (tysOk.get rfl) rfl (by repeat (first | exact Has.here | apply Has.there)) (by assumption)) rfl ?_))) | ((with_reducible refine Knd.fieldAddr ?_); ((refine Exec.stab rfl (Stab.fieldZ rfl (tysOk.get rfl) rfl rfl (tysOk.get rfl) rfl) rfl ?_))) | ((with_reducible refine Knd.nilCheck ?_); (refine Exec.stab rfl (Stab.nilCheck rfl) rfl ?_)) | ((with_reducible refine Knd.binOp ?_); ((refine Exec.stab rfl (Stab.int rfl rfl rfl) rfl ?_))) | ((with_reducible refine Knd.indexAddr ?_); (first | (refine Exec.stab rfl (Stab.indexB0 rfl rfl (tysOk.get rfl) rfl (tysOk.get rfl) rfl (by omega) (by omega)) rfl ?_) | (refine Exec.stab rfl (Stab.indexAddr rfl rfl (tysOk.get rfl) rfl (tysOk.get rfl) rfl (by omega) (by omega) (by first | rfl | assumption)) rfl ?_))))) | (with_reducible refine Tr.skip ?_) | (with_reducible refine Tr.block ?_) | (refine Tr.cond_t rfl (by first | (with_reducible assumption) | (with_reducible rfl) | (with_reducible exact (not_not_intro rfl)) | omega) ?_) | (refine Tr.cond_f rfl (by first | (with_reducible assumption) | (with_reducible rfl) | (with_reducible exact (not_not_intro rfl)) | omega) ?_))
  refine Tr.many_in (rows_get hrk) ?_
  rw [rows_set, set_same hrk]
  refine Tr.front (x := ownS 23 1 _ _ _ _) (by repeat (first | exact Del.here | apply Del.there)) ?_
  refine Tr.front (x := box sb 56 _) (by repeat (first | exact Del.here | apply Del.there)) ?_
  refine Tr.front (x := ownQ 3 _ _ _ _) (by repeat (first | exact Del.here | apply Del.there)) ?_
  refine Tr.cells (cs' := stC (.slice A0 fits.length c0) (.slice Am rws.length cm) (.slice Al R cl) (tk.set k (x : Int)) gv) (by repeat (first | exact Upd.here | apply Upd.there)) (stC_tk (by have := km.core.ltk; omega)) ?_
  repeat (first | ((with_reducible refine Tr.step rfl ?_); (first | ((with_reducible refine Knd.move ?_); (refine Exec.stab rfl (Stab.move rfl) rfl ?_)) | ((with_reducible refine Knd.load ?_); ((refine Exec.stab rfl (Stab.load rfl (tysOk.get rfl) rfl (by repeat (first | exact Has.here | apply Has.there)) rfl) rfl ?_))) | ((with_reducible refine Knd.len ?_); ((refine Exec.stab rfl (Stab.len rfl (tysOk.get rfl) rfl) rfl ?_))) | ((with_reducible refine Knd.binOp ?_); ((refine Exec.stab rfl (Stab.addi rfl rfl (by omega)) rfl ?_))))) | (with_reducible refine Tr.next ?_) | (with_reducible refine Tr.nil ?_) | (with_reducible refine Tr.block ?_))
  have bm := km.take hkn hn ht
  have hgk : (tk.set k (x : Int)).getD k 0 = (x : Int) := getD_set_self' (by have := km.core.ltk; omega)
  refine Tr.loop (α := Nat × List Int × List Nat × Option Addr × Nat) (fun y => ⟨123, [(91, .int .i64 (y.1 : Int)), (90, .int .i64 ((R : Int) + 1)), (13, .int .i64 (k : Int)), (12, .slice y.2.2.2.1 y.2.2.1.length y.2.2.2.2), (1, .int .i64 (x : Int)), (0, .pointer (some ⟨sb, 0, none⟩)), (2, .int .i64 ((r1 : Int) - 1)), (3, .func (.func f) #[] cap.toArray)], [], M, ownQ 3 y.2.2.2.1 y.2.2.1.length y.2.2.2.2 (qV y.2.2.1) :: box sb 56 (stC (.slice A0 fits.length c0) (.slice Am rws.length cm) (.slice Al R cl) (tk.set k (x : Int)) y.2.1) :: ownS 23 1 Am rws.length cm (ptrV (R + 1) rws) :: rowsR rws :: ownS 3 1 Al R cl (intV lack) :: (Gs ++ F)⟩)
    (fun y => y.1 ≤ R + 1 ∧ y.2.2.2.2 ≤ 9223372036854775807 ∧ q2.length ≤ y.2.2.1.length ∧ BMid rws fits R r1 a G (tk.set k (x : Int)) y.2.1 done x y.2.2.1 k y.1) (fun y => R + 1 - y.1) (0, gv, q2, A2, c2) ⟨by simp, hc2, Nat.le_refl _, bm⟩ (holds_sub (by repeat (first | exact SubFr.nil | refine SubFr.cons rfl ?_)) (by repeat (first | exact DropL.refl | apply DropL.skip))) (fun y hy => ?_)
  clear bm hlen htk
  obtain ⟨w, gv, q3, A3, c3⟩ := y
  obtain ⟨hb1, hc3, hq3, bm⟩ := hy
  simp only at hb1 hc3 hq3 bm
  dsimp only
  by_cases hbR : w < R + 1
  rotate_left
  · repeat (first | ((with_reducible refine Tr.step rfl ?_); (first | ((with_reducible refine Knd.move ?_); (refine Exec.stab rfl (Stab.move rfl) rfl ?_)) | ((with_reducible refine Knd.assign ?_); (refine Exec.stab rfl (Stab.assign rfl) rfl ?_)) | ((with_reducible refine Knd.binOp ?_); (first | (refine Exec.stab rfl (Stab.addi rfl rfl (by omega)) rfl ?_) | (refine Exec.stab rfl (Stab.int rfl rfl rfl) rfl ?_))))) | (with_reducible refine Tr.next ?_) | (with_reducible refine Tr.seq ?_) | (with_reducible refine Tr.region ?_) | (with_reducible refine Tr.nil ?_) | (with_reducible refine Tr.exit ?_) | (with_reducible refine Tr.then_exit ?_) | (with_reducible refine Tr.in_normal ?_) | ((with_reducible refine Tr.in_exit ?_ ?_); (exact rfl)) | (refine Tr.cond_f rfl (by first | (with_reducible assumption) | (with_reducible rfl) | (with_reducible exact (not_not_intro rfl)) | omega) ?_))
    rw [show (k : Int) + 1 = ((k + 1 : Nat) : Int) by omega]
    have hne : ∀ k', tk.getD k' 0 ≠ -1 → (tk.set k (x : Int)).getD k' 0 ≠ -1 := fun k' h => by
      by_cases e : k = k'
      · subst e; exact absurd ht h
      · rw [getD_set_ne' e]; exact h
    refine Tr.again (k + 1, tk.set k (x : Int), gv, q3, A3, c3) ⟨by simp only; omega, .inl (by simp only; omega), hc3, by simp only; omega, ⟨bm.core, bm.goal, fun y hy k' h1 h2 h3 => hne k' (km.dn y hy k' h1 h2 h3), fun k' h1 h2 c hc hs => ?_, fun k' h1 h2 h3 h4 => ?_⟩⟩ (by simp only; omega) (holds_sub (by repeat (first | exact SubFr.nil | refine SubFr.cons rfl ?_)) (by repeat (first | exact DropL.refl | apply DropL.skip)))
    · by_cases e : k' = k
      · subst e; exact bm.part c (by omega) hc hs
      · exact bm.full k' h1 e h2 c hc hs
    · by_cases e : k' = k
      · subst e; rw [hgk]; omega
      · exact hne k' (km.cur k' h1 (by omega) h3 h4)
  have hlen : (stC (.slice A0 fits.length c0) (.slice Am rws.length cm) (.slice Al R cl) (tk.set k (x : Int)) gv).length = 132 := by simp [stC, bm.core.lgv, km.core.ltk]
  have hgv := stC_gvAt (fs := .slice A0 fits.length c0) (am := .slice Am rws.length cm) (lk := .slice Al R cl) (k := w) bm.core.ltk (show w < gv.length by have := bm.core.lgv; omega)
  by_cases hg : gv.getD w 0 = -1
  rotate_left
  · repeat (first | ((with_reducible refine Tr.step rfl ?_); (first | ((with_reducible refine Knd.move ?_); (refine Exec.stab rfl (Stab.move rfl) rfl ?_)) | ((with_reducible refine Knd.assign ?_); (refine Exec.stab rfl (Stab.assign rfl) rfl ?_)) | ((with_reducible refine Knd.load ?_); ((refine Exec.stab rfl (Stab.load rfl (tysOk.get rfl) rfl (by repeat (first | exact Has.here | apply Has.there)) (by assumption)) rfl ?_))) | ((with_reducible refine Knd.fieldAddr ?_); ((refine Exec.stab rfl (Stab.fieldZ rfl (tysOk.get rfl) rfl rfl (tysOk.get rfl) rfl) rfl ?_))) | ((with_reducible refine Knd.nilCheck ?_); (refine Exec.stab rfl (Stab.nilCheck rfl) rfl ?_)) | ((with_reducible refine Knd.binOp ?_); (first | (refine Exec.stab rfl (Stab.addi rfl rfl (by omega)) rfl ?_) | (refine Exec.stab rfl (Stab.int rfl rfl rfl) rfl ?_))) | ((with_reducible refine Knd.pick ?_); ((refine Exec.stab rfl (Stab.pick_td rfl (by first | (with_reducible assumption) | (with_reducible rfl) | (with_reducible exact (not_not_intro rfl)) | omega) rfl) rfl ?_))) | ((with_reducible refine Knd.indexAddr ?_); ((refine Exec.stab rfl (Stab.indexArrB rfl rfl (tysOk.get rfl) rfl (tysOk.get rfl) rfl (by omega) (by omega)) rfl ?_))))) | (with_reducible refine Tr.next ?_) | (with_reducible refine Tr.seq ?_) | (with_reducible refine Tr.region ?_) | (with_reducible refine Tr.nil ?_) | (refine Tr.guard_n' rfl rfl rfl (by first | (with_reducible assumption) | (with_reducible rfl) | (with_reducible exact (not_not_intro rfl)) | omega) rfl rfl ?_) | (with_reducible refine Tr.skip ?_) | (with_reducible refine Tr.block ?_) | (with_reducible refine Tr.exit ?_) | (with_reducible refine Tr.then_exit ?_) | ((with_reducible refine Tr.in_exit ?_ ?_); (exact rfl)) | (refine Tr.cond_bt rfl (by first | (with_reducible rfl) | (with_reducible assumption) | (with_reducible exact Bool.not_true) | (with_reducible exact Bool.not_false)) ?_) | (refine Tr.cond_t rfl (by first | (with_reducible assumption) | (with_reducible rfl) | (with_reducible exact (not_not_intro rfl)) | omega) ?_))
    refine Tr.again (w + 1, gv, q3, A3, c3) ⟨by simp only; omega, hc3, hq3, bm.skip (.inl hg)⟩ (by simp only; omega) (holds_sub (by repeat (first | exact SubFr.nil | refine SubFr.cons rfl ?_)) (by repeat (first | exact DropL.refl | apply DropL.skip)))
  rw [hg] at hgv
  repeat (first | ((with_reducible refine Tr.step rfl ?_); (first | ((with_reducible refine Knd.move ?_); (refine Exec.stab rfl (Stab.move rfl) rfl ?_)) | ((with_reducible refine Knd.assign ?_); (refine Exec.stab rfl (Stab.assign rfl) rfl ?_)) | ((with_reducible refine Knd.load ?_); ((refine Exec.stab rfl (Stab.load rfl (tysOk.get rfl) rfl (by repeat (first | exact Has.here | apply Has.there)) (by assumption)) rfl ?_))) | ((with_reducible refine Knd.fieldAddr ?_); ((refine Exec.stab rfl (Stab.fieldZ rfl (tysOk.get rfl) rfl rfl (tysOk.get rfl) rfl) rfl ?_))) | ((with_reducible refine Knd.nilCheck ?_); (refine Exec.stab rfl (Stab.nilCheck rfl) rfl ?_)) | ((with_reducible refine Knd.binOp ?_); ((refine Exec.stab rfl (Stab.int rfl rfl rfl) rfl ?_))) | ((with_reducible refine Knd.indexAddr ?_); ((refine Exec.stab rfl (Stab.indexArrB rfl rfl (tysOk.get rfl) rfl (tysOk.get rfl) rfl (by omega) (by omega)) rfl ?_))))) | (with_reducible refine Tr.next ?_) | (with_reducible refine Tr.seq ?_) | (with_reducible refine Tr.region ?_) | (with_reducible refine Tr.nil ?_) | ((refine Tr.guard_y' rfl rfl rfl (by first | (with_reducible assumption) | (with_reducible rfl) | (with_reducible exact (not_not_intro rfl)) | omega) ?_); (((with_reducible refine Knd.move ?_); (refine Exec.stab rfl (Stab.move rfl) rfl ?_)))) | (with_reducible refine Tr.skip ?_) | (with_reducible refine Tr.block ?_) | (refine Tr.cond_t rfl (by first | (with_reducible assumption) | (with_reducible rfl) | (with_reducible exact (not_not_intro rfl)) | omega) ?_))
  ((refine Tr.guard_y' rfl rfl rfl (by first | (with_reducible assumption) | (with_reducible rfl) | (with_reducible exact (not_not_intro rfl)) | omega) ?_))
  refine Exec.call (A := [box sb 56 (stC (.slice A0 fits.length c0) (.slice Am rws.length cm) (.slice Al R cl) (tk.set k (x : Int)) gv)]) rfl (serves_fn M A0 Am Al c0 cm cl rws.length fits hf R hl hrows (tk.set k (x : Int)) gv sb k w (by omega) (by omega)) (Del.perm (by repeat (first | exact Del.here | apply Del.there))) rfl ?_
  rintro _ _ _ _ ⟨rfl, rfl, rfl⟩
  refine Tr.front (x := ownQ 3 _ _ _ _) (by repeat (first | exact Del.here | apply Del.there)) ?_
  cases hsb : srvB fits R k w
  · repeat (first | ((with_reducible refine Tr.step rfl ?_); (first | ((with_reducible refine Knd.move ?_); (refine Exec.stab rfl (Stab.move rfl) rfl ?_)) | ((with_reducible refine Knd.binOp ?_); ((refine Exec.stab rfl (Stab.addi rfl rfl (by omega)) rfl ?_))) | ((with_reducible refine Knd.pick ?_); ((refine Exec.stab rfl (Stab.pick_fd rfl (by first | (with_reducible assumption) | (with_reducible rfl) | (with_reducible exact (not_not_intro rfl)) | omega) rfl) rfl ?_))))) | (with_reducible refine Tr.next ?_) | (with_reducible refine Tr.region ?_) | (with_reducible refine Tr.nil ?_) | ((refine Tr.guard_y' rfl rfl rfl (by first | (with_reducible assumption) | (with_reducible rfl) | (with_reducible exact (not_not_intro rfl)) | omega) ?_); (((with_reducible refine Knd.unOp ?_); ((refine Exec.stab rfl (Stab.not rfl) rfl ?_))))) | (with_reducible refine Tr.exit ?_) | (with_reducible refine Tr.then_exit ?_) | ((with_reducible refine Tr.in_exit ?_ ?_); (exact rfl)) | (refine Tr.cond_bt rfl (by first | (with_reducible rfl) | (with_reducible assumption) | (with_reducible exact Bool.not_true) | (with_reducible exact Bool.not_false)) ?_))
    refine Tr.again (w + 1, gv, q3, A3, c3) ⟨by simp only; omega, hc3, hq3, bm.skip (.inr hsb)⟩ (by simp only; omega) (holds_sub (by repeat (first | exact SubFr.nil | refine SubFr.cons rfl ?_)) (by repeat (first | exact DropL.refl | apply DropL.skip)))
  have hcnt3 := bm.core.count
  simp only [List.length_append, List.length_cons] at hcnt3
  obtain ⟨hco, hba, hbm⟩ := bm.give hl hkn hk1 (show w ≤ R by omega) hg hgk (by rw [hamt]; exact hv0) hsb
  repeat (first | ((with_reducible refine Tr.step rfl ?_); (first | ((with_reducible refine Knd.move ?_); (refine Exec.stab rfl (Stab.move rfl) rfl ?_)) | ((with_reducible refine Knd.fieldAddr ?_); ((refine Exec.stab rfl (Stab.fieldZ rfl (tysOk.get rfl) rfl rfl (tysOk.get rfl) rfl) rfl ?_))) | ((with_reducible refine Knd.nilCheck ?_); (refine Exec.stab rfl (Stab.nilCheck rfl) rfl ?_)) | ((with_reducible refine Knd.pick ?_); ((refine Exec.stab rfl (Stab.pick_fd rfl (by first | (with_reducible assumption) | (with_reducible rfl) | (with_reducible exact (not_not_intro rfl)) | omega) rfl) rfl ?_))) | ((with_reducible refine Knd.store ?_); ((refine Exec.storeS rfl rfl (tysOk.get rfl) rfl (by first | rfl | assumption) (by repeat (first | exact Upd.here | apply Upd.there)) (by omega) ?_))) | ((with_reducible refine Knd.indexAddr ?_); ((refine Exec.stab rfl (Stab.indexArrB rfl rfl (tysOk.get rfl) rfl (tysOk.get rfl) rfl (by omega) (by omega)) rfl ?_))))) | (with_reducible refine Tr.next ?_) | (with_reducible refine Tr.seq ?_) | (with_reducible refine Tr.region ?_) | (with_reducible refine Tr.nil ?_) | ((refine Tr.guard_y' rfl rfl rfl (by first | (with_reducible assumption) | (with_reducible rfl) | (with_reducible exact (not_not_intro rfl)) | omega) ?_); (((with_reducible refine Knd.unOp ?_); ((refine Exec.stab rfl (Stab.not rfl) rfl ?_))))) | (with_reducible refine Tr.skip ?_) | (refine Tr.cond_bf rfl (by first | (with_reducible rfl) | (with_reducible assumption) | (with_reducible exact Bool.not_true) | (with_reducible exact Bool.not_false)) ?_))
  refine Tr.cells (cs' := stC (.slice A0 fits.length c0) (.slice Am rws.length cm) (.slice Al R cl) (tk.set k (x : Int)) (gv.set w (k : Int))) (by repeat (first | exact Upd.here | apply Upd.there)) (stC_gv bm.core.ltk) ?_
  repeat (fail)
  ((refine Tr.step rfl ?_))
  refine Exec.callv (A := stL ⟨sb, .slice A0 fits.length c0, Am, cm, Al, cl⟩ (R + 1) rws lack (tk.set k (x : Int)) (gv.set w (k : Int)) ++ Gs) (F := ownQ 3 A3 q3.length c3 (qV q3) :: F) (first := []) (cap := cap) rfl rfl (hG (tk.set k (x : Int)) (gv.set w (k : Int)) w (by omega)) (hperm _ _ _) rfl ?_
  rintro _ _ _ _ ⟨rfl, rfl, rfl⟩
  refine Tr.reorder (hperm _ _ _).symm ?_
  cases hGb : G w
  rotate_left
  · repeat (first | ((with_reducible refine Tr.step rfl ?_); (first | ((with_reducible refine Knd.move ?_); (refine Exec.stab rfl (Stab.move rfl) rfl ?_)) | ((with_reducible refine Knd.assign ?_); (refine Exec.stab rfl (Stab.assign rfl) rfl ?_)))) | (with_reducible refine Tr.next ?_) | (with_reducible refine Tr.seq ?_) | (with_reducible refine Tr.region ?_) | (with_reducible refine Tr.nil ?_) | (with_reducible refine Tr.ret ?_) | (with_reducible refine Tr.then_ret ?_) | (with_reducible refine Tr.in_ret ?_) | (refine Tr.cond_bt rfl (by first | (with_reducible rfl) | (with_reducible assumption) | (with_reducible exact Bool.not_true) | (with_reducible exact Bool.not_false)) ?_))
    refine Tr.give (r := ownQ 3 _ _ _ _) (by repeat (first | exact Del.here | apply Del.there)) ?_
    refine Tr.doneA (A' := stL ⟨sb, .slice A0 fits.length c0, Am, cm, Al, cl⟩ (R + 1) rws lack (tk.set k (x : Int)) (gv.set w (k : Int)) ++ Gs) (by first | exact .inl rfl | exact .inr rfl) rfl (by repeat (first | exact RVs.nil | (apply RVs.cons; (exact RV.tmp rfl)))) (Mem.le.refl _) ⟨fun r hr => by subst hR; simpa [stL] using hr, fun h => by subst hR; simpa [stL] using h⟩ ⟨w, true, tk.set k (x : Int), gv.set w (k : Int), rfl, rfl, by simp [stL, hR, rowsR], _, hco, .inl ⟨rfl, by simp, hba, hGb⟩⟩
  · repeat (first | ((with_reducible refine Tr.step rfl ?_); (first | ((with_reducible refine Knd.move ?_); (refine Exec.stab rfl (Stab.move rfl) rfl ?_)) | ((with_reducible refine Knd.buildSlice ?_); ((refine Exec.buildSlice (tysOk.get rfl) rfl (tysOk.get rfl) rfl rfl rfl rfl rfl (by repeat (first | exact BuildP.nil | ((apply BuildP.one); (rfl); (rfl); (first | rfl | assumption); (repeat (first | exact SetL.z | apply SetL.s))))) rfl (fun b => ?_)))))) | (with_reducible refine Tr.next ?_) | (with_reducible refine Tr.region ?_) | (with_reducible refine Tr.nil ?_) | (with_reducible refine Tr.skip ?_) | (refine Tr.cond_bf rfl (by first | (with_reducible rfl) | (with_reducible assumption) | (with_reducible exact Bool.not_true) | (with_reducible exact Bool.not_false)) ?_))
    ((refine Tr.step rfl ?_))
    refine Exec.appendQ (v := .int .i64 (w : Int)) rfl rfl (tysOk.get rfl) rfl (tysOk.get rfl) rfl rfl rfl (by repeat (first | exact Del.here | apply Del.there)) (by repeat (first | exact Has.here | apply Has.there)) rfl (by omega) (by omega) rfl (fun A6 c6 hc6 => ?_)
    rw [show qV q3 ++ [Value.int .i64 (w : Int)] = qV (q3 ++ [w]) by simp [qV], show q3.length + 1 = (q3 ++ [w]).length by simp]
    repeat (first | ((with_reducible refine Tr.step rfl ?_); (first | ((with_reducible refine Knd.move ?_); (refine Exec.stab rfl (Stab.move rfl) rfl ?_)) | ((with_reducible refine Knd.assign ?_); (refine Exec.stab rfl (Stab.assign rfl) rfl ?_)) | ((with_reducible refine Knd.binOp ?_); ((refine Exec.stab rfl (Stab.addi rfl rfl (by omega)) rfl ?_))))) | (with_reducible refine Tr.next ?_) | (with_reducible refine Tr.region ?_) | (with_reducible refine Tr.nil ?_) | (with_reducible refine Tr.in_normal ?_))
    refine Tr.give (r := box _ 3 [_]) (by repeat (first | exact Del.here | apply Del.there)) ?_
    refine Tr.again (w + 1, gv.set w (k : Int), q3 ++ [w], A6, c6) ⟨by simp only; omega, hc6, by simp only [List.length_append]; omega, hbm hGb⟩ (by simp only; omega) (holds_sub (by repeat (first | exact SubFr.nil | refine SubFr.cons rfl ?_)) (by repeat (first | exact DropL.refl | apply DropL.skip)))
end Go.Proofs.Ytmioocddmlfboaa
