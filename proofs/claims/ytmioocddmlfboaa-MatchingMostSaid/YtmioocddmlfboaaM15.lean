/-
  Matching: the contracts of sets and of the function that it returns.
  Conditions: none.
-/
import Derived.Test.YtmioocddmlfboaaM14
import Derived.Test.YtmioocddmlfboaaBfFn
namespace Go.Proofs.Ytmioocddmlfboaa
open Go Bf
attribute [local irreducible] Tr Exec Stab HasTy Go.Addr.add IntKind.wrap
def boV (l : List Bool) : List Value := l.map .bool
@[simp] theorem boV_length (l : List Bool) : (boV l).length = l.length := by simp [boV]
theorem boV_set (l : List Bool) (i : Nat) (x : Bool) : (boV l).set i (.bool x) = boV (l.set i x) := by simp [boV, List.map_set]
theorem boV_get {l : List Bool} {i : Nat} {x : Bool} (h : l[i]? = some x) : (boV l)[i]? = some (.bool x) := by simp [boV, h]
/-- the needs of those that are still there, but for i -/
def othersL (need : List Int) (t : List Bool) (i : Nat) : List Int := (List.range need.length).map fun k => if t.getD k false = true ∧ k ≠ i then need.getD k 0 else 0
@[simp] theorem othersL_length (need : List Int) (t : List Bool) (i : Nat) : (othersL need t i).length = need.length := by simp [othersL]
theorem othersL_get (need : List Int) (t : List Bool) (i b : Nat) : (othersL need t i).getD b 0 = if t.getD b false = true ∧ b ≠ i then need.getD b 0 else 0 := by
  by_cases hb : b < need.length
  · rw [getD_of (d := 0) (x := if t.getD b false = true ∧ b ≠ i then need.getD b 0 else 0)]
    simp [othersL, hb]
  · have e : need.getD b 0 = 0 := by rw [List.getD_eq_getElem?_getD, List.getElem?_eq_none (by omega)]; rfl
    rw [List.getD_eq_getElem?_getD, List.getElem?_eq_none (by simp; omega), e]
    simp
set_option maxHeartbeats 1000000 in
theorem sets_fn (M : Mem) (v w : Value) (hv : v.oneCell' = true) (hw : w.oneCell' = true) :
    Bf.Fn Try.prog 47 [v, w] M [] (fun r M' A' => ∃ nb tb, r = .func (.func 53) #[] #[.pointer (some ⟨nb, 0, none⟩), .pointer (some ⟨tb, 0, none⟩)] ∧ M = M' ∧ A' = [box nb 23 [v], box tb 43 [w]]) := by
  refine Fn.intro Try.func47 rfl rfl Try.ntmps47 rfl fun E F => ?_
  repeat (first | ((with_reducible refine Tr.step rfl ?_); (first | ((with_reducible refine Knd.assign ?_); (refine Exec.stab rfl (Stab.assign rfl) rfl ?_)) | ((with_reducible refine Knd.makeFunc ?_); (refine Exec.stab rfl (Stab.makeFunc rfl rfl) rfl ?_)) | ((with_reducible refine Knd.box ?_); (first | (refine Exec.box rfl rfl (fun b => ?_)) | (refine Exec.box1 rfl (by first | rfl | assumption) rfl (fun b => ?_)))))) | (with_reducible refine Tr.next ?_) | (with_reducible refine Tr.seq ?_) | (with_reducible refine Tr.region ?_) | (with_reducible refine Tr.nil ?_) | (with_reducible refine Tr.ret ?_))
  refine Tr.front (x := box _ 23 [v]) (by repeat (first | exact Del.here | apply Del.there)) ?_
  refine Tr.doneA (A' := [box _ 23 [v], box _ 43 [w]]) (by first | exact .inl rfl | exact .inr rfl) rfl (by repeat (first | exact RVs.nil | (apply RVs.cons; (exact RV.tmp rfl)))) (Mem.le.refl _) ⟨fun _ h => h, fun h => h⟩ ⟨_, _, rfl, rfl, rfl⟩
set_option maxHeartbeats 4000000 in
theorem sets1_fn (M0 : Mem) (A2 : Option Addr) (c2 : Nat) (need : List Int) (hn : Ints M0 (.slice A2 need.length c2) need) (ln : need.length ≤ 64) (l nb tb : Nat) (B : Option Addr) (c : Nat) (J : Nat → List Bool → List Res → Prop) (t0 : List Bool) (A0 A : List Res) (arr : List Bool → List Res → List Res) (harr : ∀ t A, (ownS 4 1 B need.length c (boV t) :: A).Perm (arr t A)) (ht0 : t0.length = need.length) (hJ : J need.length t0 A0)
    (hA : (box nb 23 [.slice A2 need.length c2] :: box tb 43 [.slice B need.length c] :: ownS 4 1 B need.length c (boV t0) :: A0).Perm A)
    (hy : ∀ i t A' M1 B5 c5, i < need.length → t.length = need.length → Mem.le M0 M1 → J (i + 1) t A' → Ints M1 (.slice B5 need.length c5) (othersL need t i) → Yl Try.prog l [.int .i64 (i : Int), .slice B5 need.length c5] M1 (ownS 4 1 B need.length c (boV t) :: A') (fun r M' A'' => r = .bool true ∧ ∃ t' A3, A'' = ownS 4 1 B need.length c (boV t') :: A3 ∧ t'.length = need.length ∧ J i t' A3)) :
    Bf.Fn Try.prog 53 [yv l, .pointer (some ⟨nb, 0, none⟩), .pointer (some ⟨tb, 0, none⟩)] M0 A (fun _ M' A' => Mem.le M0 M' ∧ ∃ t' A3, t'.length = need.length ∧ A' = arr t' A3 ∧ J 0 t' A3) := by
  refine Fn.intro Try.func53 rfl rfl Try.ntmps53 rfl fun E F => ?_
  refine Tr.perm (L' := box nb 23 [.slice A2 need.length c2] :: box tb 43 [.slice B need.length c] :: ownS 4 1 B need.length c (boV t0) :: (A0 ++ F)) (hA.append_right F) ?_
  repeat (first | ((with_reducible refine Tr.step rfl ?_); (first | ((with_reducible refine Knd.assign ?_); (refine Exec.stab rfl (Stab.assign rfl) rfl ?_)) | ((with_reducible refine Knd.load ?_); ((refine Exec.stab rfl (Stab.load rfl (tysOk.get rfl) rfl (by repeat (first | exact Has.here | apply Has.there)) rfl) rfl ?_))) | ((with_reducible refine Knd.len ?_); ((refine Exec.stab rfl (Stab.len rfl (tysOk.get rfl) rfl) rfl ?_))) | ((with_reducible refine Knd.binOp ?_); ((refine Exec.stab rfl (Stab.subi rfl rfl (by omega)) rfl ?_))))) | (with_reducible refine Tr.next ?_) | (with_reducible refine Tr.seq ?_) | (with_reducible refine Tr.region ?_) | (with_reducible refine Tr.nil ?_) | (with_reducible refine Tr.block ?_))
  refine Tr.loop (α := Nat × List Bool × List Res × Mem) (fun y => ⟨44, [(4, .int .i64 ((y.1 : Int) - 1)), (0, yv l), (1, .pointer (some ⟨nb, 0, none⟩)), (2, .pointer (some ⟨tb, 0, none⟩))], [], y.2.2.2, box nb 23 [.slice A2 need.length c2] :: box tb 43 [.slice B need.length c] :: ownS 4 1 B need.length c (boV y.2.1) :: (y.2.2.1 ++ F)⟩) (fun y => y.1 ≤ need.length ∧ y.2.1.length = need.length ∧ Mem.le M0 y.2.2.2 ∧ J y.1 y.2.1 y.2.2.1) (fun y => y.1) (need.length, t0, A0, M0) ⟨Nat.le_refl _, ht0, Mem.le.refl _, hJ⟩ (holds_sub (by repeat (first | exact SubFr.nil | refine SubFr.cons rfl ?_)) (by repeat (first | exact DropL.refl | apply DropL.skip))) (fun y hy2 => ?_)
  clear hA hJ ht0
  clear t0 A0
  obtain ⟨m, t, A', M⟩ := y
  obtain ⟨hm, ht, hM, hJ⟩ := hy2
  simp only at hm ht hM hJ
  dsimp only
  cases m with
  | zero =>
    repeat (first | ((with_reducible refine Tr.step rfl ?_); (first | ((with_reducible refine Knd.move ?_); (refine Exec.stab rfl (Stab.move rfl) rfl ?_)) | ((with_reducible refine Knd.binOp ?_); ((refine Exec.stab rfl (Stab.int rfl rfl rfl) rfl ?_))))) | (with_reducible refine Tr.next ?_) | (with_reducible refine Tr.seq ?_) | (with_reducible refine Tr.region ?_) | (with_reducible refine Tr.nil ?_) | (with_reducible refine Tr.exit ?_) | (with_reducible refine Tr.then_exit ?_) | ((with_reducible refine Tr.in_exit ?_ ?_); (exact rfl)) | (refine Tr.cond_f rfl (by first | (with_reducible assumption) | (with_reducible rfl) | (with_reducible exact (not_not_intro rfl)) | omega) ?_))
    refine Tr.give (r := box nb 23 _) (by repeat (first | exact Del.here | apply Del.there)) ?_
    refine Tr.give (r := box tb 43 _) (by repeat (first | exact Del.here | apply Del.there)) ?_
    refine Tr.perm (L' := arr t A' ++ F) ((harr t A').symm.append_right F) ?_
    refine Tr.doneA (A' := arr t A') (by first | exact .inl rfl | exact .inr rfl) rfl (by repeat (exact RVs.nil)) hM ⟨fun _ h => h, fun h => h⟩ ⟨hM, t, A', ht, rfl, hJ⟩
  | succ i =>
    have e : ((i + 1 : Nat) : Int) - 1 = i := by omega
    rw [e]
    repeat (first | ((with_reducible refine Tr.step rfl ?_); (first | ((with_reducible refine Knd.move ?_); (refine Exec.stab rfl (Stab.move rfl) rfl ?_)) | ((with_reducible refine Knd.assign ?_); (refine Exec.stab rfl (Stab.assign rfl) rfl ?_)) | ((with_reducible refine Knd.load ?_); ((refine Exec.stab rfl (Stab.load rfl (tysOk.get rfl) rfl (by repeat (first | exact Has.here | apply Has.there)) rfl) rfl ?_))) | ((with_reducible refine Knd.len ?_); ((refine Exec.stab rfl (Stab.len rfl (tysOk.get rfl) rfl) rfl ?_))) | ((with_reducible refine Knd.binOp ?_); ((refine Exec.stab rfl (Stab.int rfl rfl rfl) rfl ?_))) | ((with_reducible refine Knd.makeSlice ?_); (refine Exec.make rfl rfl (tysOk.get rfl) rfl (tysOk.get rfl) rfl rfl rfl (by omega) (by omega) (by first | omega | (simp; done) | (simp; omega)) (by omega) rfl (fun b => ?_))))) | (with_reducible refine Tr.next ?_) | (with_reducible refine Tr.seq ?_) | (with_reducible refine Tr.region ?_) | (with_reducible refine Tr.nil ?_) | (with_reducible refine Tr.skip ?_) | (with_reducible refine Tr.block ?_) | (refine Tr.cond_t rfl (by first | (with_reducible assumption) | (with_reducible rfl) | (with_reducible exact (not_not_intro rfl)) | omega) ?_))
    rw [show ((need.length : Int)).toNat = need.length by omega, show List.replicate need.length (Value.int .i64 0) = intV (List.replicate need.length 0) by simp [intV]]
    generalize b = ob
    refine Tr.loop (α := Nat × List Int) (fun y => ⟨44, [(20, .int .i64 (y.1 : Int)), (19, .int .i64 (need.length : Int)), (18, .slice A2 need.length c2), (5, .slice (some ⟨ob, 0, none⟩) need.length need.length), (4, .int .i64 (i : Int)), (0, yv l), (1, .pointer (some ⟨nb, 0, none⟩)), (2, .pointer (some ⟨tb, 0, none⟩))], [], M, box ob 3 (intV y.2) :: box nb 23 [.slice A2 need.length c2] :: box tb 43 [.slice B need.length c] :: ownS 4 1 B need.length c (boV t) :: (A' ++ F)⟩)
      (fun y => y.1 ≤ need.length ∧ y.2.length = need.length ∧ ∀ q, y.2.getD q 0 = if q < y.1 ∧ t.getD q false = true ∧ q ≠ i then need.getD q 0 else 0) (fun y => need.length - y.1) (0, List.replicate need.length 0) ⟨Nat.zero_le _, by simp, fun q => by
        rw [if_neg (fun h => by have := h.1; simp at this)]
        rw [List.getD_eq_getElem?_getD]
        by_cases hq : q < need.length
        · simp [hq]
        · rw [List.getElem?_eq_none (by simp; omega)]; rfl⟩ (holds_sub (by repeat (first | exact SubFr.nil | refine SubFr.cons rfl ?_)) (by repeat (first | exact DropL.refl | apply DropL.skip))) (fun y hy2 => ?_)
    obtain ⟨k, xs⟩ := y
    obtain ⟨hk, hxl, hxs⟩ := hy2
    simp only at hk hxl hxs
    dsimp only
    have hxi : (intV xs).length = need.length := by simp [hxl]
    by_cases hkn : k < need.length
    · obtain ⟨v, hv⟩ := get_of_lt hkn
      have hn' : Ints M (.slice A2 need.length c2) need := hn.mono RI.mono hM
      obtain ⟨hA, hat⟩ := hn'.at hv
      obtain ⟨tv, htv⟩ := get_of_lt (xs := t) (i := k) (by omega)
      have htb := boV_get htv
      have htd : t.getD k false = tv := getD_of htv
      have hnd : need.getD k 0 = v := getD_of hv
      refine Tr.own_some B (by repeat (first | exact Has.here | apply Has.there)) (by omega) (fun hB => ?_)
      have keep : (tv = false ∨ k = i) → ∀ q, xs.getD q 0 = if q < k + 1 ∧ t.getD q false = true ∧ q ≠ i then need.getD q 0 else 0 := fun h q => by
        rw [hxs q]
        by_cases e : q = k
        · subst e
          rw [if_neg (by omega), if_neg]
          rintro ⟨-, h1, h2⟩
          rw [htd] at h1
          rcases h with h | h
          · rw [h] at h1; cases h1
          · exact h2 h
        · have : q < k + 1 ↔ q < k := by omega
          simp only [this]
      cases tv
      · repeat (first | ((with_reducible refine Tr.step rfl ?_); (first | ((with_reducible refine Knd.move ?_); (refine Exec.stab rfl (Stab.move rfl) rfl ?_)) | ((with_reducible refine Knd.assign ?_); (refine Exec.stab rfl (Stab.assign rfl) rfl ?_)) | ((with_reducible refine Knd.load ?_); (first | (refine Exec.stab rfl (Stab.load rfl (tysOk.get rfl) rfl (by repeat (first | exact Has.here | apply Has.there)) rfl) rfl ?_) | (refine Exec.stab rfl (Stab.loadM rfl (tysOk.get rfl) rfl (by assumption)) rfl ?_) | (refine Exec.stab rfl (Stab.loadO rfl (tysOk.get rfl) rfl (by repeat (first | exact Has.here | apply Has.there)) (by assumption)) rfl ?_))) | ((with_reducible refine Knd.binOp ?_); (first | (refine Exec.stab rfl (Stab.addi rfl rfl (by omega)) rfl ?_) | (refine Exec.stab rfl (Stab.int rfl rfl rfl) rfl ?_))) | ((with_reducible refine Knd.pick ?_); ((refine Exec.stab rfl (Stab.pick_f rfl (by first | (with_reducible rfl) | (with_reducible assumption) | (with_reducible exact Bool.not_true) | (with_reducible exact Bool.not_false)) rfl) rfl ?_))) | ((with_reducible refine Knd.indexAddr ?_); ((refine Exec.stab rfl (Stab.indexAddr rfl rfl (tysOk.get rfl) rfl (tysOk.get rfl) rfl (by omega) (by omega) (by first | rfl | assumption)) rfl ?_))))) | (with_reducible refine Tr.next ?_) | (with_reducible refine Tr.seq ?_) | (with_reducible refine Tr.region ?_) | (with_reducible refine Tr.nil ?_) | (refine Tr.guard_s1 rfl rfl rfl (by first | (with_reducible rfl) | (with_reducible assumption) | (with_reducible exact Bool.not_true) | (with_reducible exact Bool.not_false)) rfl rfl ?_) | (with_reducible refine Tr.skip ?_) | (with_reducible refine Tr.block ?_) | (with_reducible refine Tr.in_normal ?_) | (refine Tr.cond_bf rfl (by first | (with_reducible rfl) | (with_reducible assumption) | (with_reducible exact Bool.not_true) | (with_reducible exact Bool.not_false)) ?_) | (refine Tr.cond_t rfl (by first | (with_reducible assumption) | (with_reducible rfl) | (with_reducible exact (not_not_intro rfl)) | omega) ?_))
        refine Tr.again (k + 1, xs) ⟨by simp only; omega, hxl, keep (.inl rfl)⟩ (by simp only; omega) (holds_sub (by repeat (first | exact SubFr.nil | refine SubFr.cons rfl ?_)) (by repeat (first | exact DropL.refl | apply DropL.skip)))
      by_cases hki : k = i
      · have hki' : ¬ (k : Int) ≠ (i : Int) := by omega
        repeat (first | ((with_reducible refine Tr.step rfl ?_); (first | ((with_reducible refine Knd.move ?_); (refine Exec.stab rfl (Stab.move rfl) rfl ?_)) | ((with_reducible refine Knd.assign ?_); (refine Exec.stab rfl (Stab.assign rfl) rfl ?_)) | ((with_reducible refine Knd.load ?_); (first | (refine Exec.stab rfl (Stab.load rfl (tysOk.get rfl) rfl (by repeat (first | exact Has.here | apply Has.there)) rfl) rfl ?_) | (refine Exec.stab rfl (Stab.loadM rfl (tysOk.get rfl) rfl (by assumption)) rfl ?_) | (refine Exec.stab rfl (Stab.loadO rfl (tysOk.get rfl) rfl (by repeat (first | exact Has.here | apply Has.there)) (by assumption)) rfl ?_))) | ((with_reducible refine Knd.binOp ?_); (first | (refine Exec.stab rfl (Stab.addi rfl rfl (by omega)) rfl ?_) | (refine Exec.stab rfl (Stab.int rfl rfl rfl) rfl ?_))) | ((with_reducible refine Knd.pick ?_); ((refine Exec.stab rfl (Stab.pick_t rfl (by first | (with_reducible rfl) | (with_reducible assumption) | (with_reducible exact Bool.not_true) | (with_reducible exact Bool.not_false)) rfl) rfl ?_))) | ((with_reducible refine Knd.indexAddr ?_); ((refine Exec.stab rfl (Stab.indexAddr rfl rfl (tysOk.get rfl) rfl (tysOk.get rfl) rfl (by omega) (by omega) (by first | rfl | assumption)) rfl ?_))))) | (with_reducible refine Tr.next ?_) | (with_reducible refine Tr.seq ?_) | (with_reducible refine Tr.region ?_) | (with_reducible refine Tr.nil ?_) | ((refine Tr.guard_l rfl rfl rfl (by first | (with_reducible rfl) | (with_reducible assumption) | (with_reducible exact Bool.not_true) | (with_reducible exact Bool.not_false)) ?_); (first | ((with_reducible refine Knd.move ?_); (refine Exec.stab rfl (Stab.move rfl) rfl ?_)) | ((with_reducible refine Knd.binOp ?_); ((refine Exec.stab rfl (Stab.int rfl rfl rfl) rfl ?_))))) | (with_reducible refine Tr.skip ?_) | (with_reducible refine Tr.block ?_) | (with_reducible refine Tr.in_normal ?_) | (refine Tr.cond_t rfl (by first | (with_reducible assumption) | (with_reducible rfl) | (with_reducible exact (not_not_intro rfl)) | omega) ?_) | (refine Tr.cond_f rfl (by first | (with_reducible assumption) | (with_reducible rfl) | (with_reducible exact (not_not_intro rfl)) | omega) ?_))
        refine Tr.again (k + 1, xs) ⟨by simp only; omega, hxl, keep (.inr hki)⟩ (by simp only; omega) (holds_sub (by repeat (first | exact SubFr.nil | refine SubFr.cons rfl ?_)) (by repeat (first | exact DropL.refl | apply DropL.skip)))
      · have hki' : (k : Int) ≠ (i : Int) := by omega
        repeat (first | ((with_reducible refine Tr.step rfl ?_); (first | ((with_reducible refine Knd.move ?_); (refine Exec.stab rfl (Stab.move rfl) rfl ?_)) | ((with_reducible refine Knd.assign ?_); (refine Exec.stab rfl (Stab.assign rfl) rfl ?_)) | ((with_reducible refine Knd.load ?_); (first | (refine Exec.stab rfl (Stab.load rfl (tysOk.get rfl) rfl (by repeat (first | exact Has.here | apply Has.there)) rfl) rfl ?_) | (refine Exec.stab rfl (Stab.loadM rfl (tysOk.get rfl) rfl (by assumption)) rfl ?_) | (refine Exec.stab rfl (Stab.loadO rfl (tysOk.get rfl) rfl (by repeat (first | exact Has.here | apply Has.there)) (by assumption)) rfl ?_))) | ((with_reducible refine Knd.binOp ?_); (first | (refine Exec.stab rfl (Stab.addi rfl rfl (by omega)) rfl ?_) | (refine Exec.stab rfl (Stab.int rfl rfl rfl) rfl ?_))) | ((with_reducible refine Knd.pick ?_); ((refine Exec.stab rfl (Stab.pick_t rfl (by first | (with_reducible rfl) | (with_reducible assumption) | (with_reducible exact Bool.not_true) | (with_reducible exact Bool.not_false)) rfl) rfl ?_))) | ((with_reducible refine Knd.store ?_); ((refine Exec.storeS rfl rfl (tysOk.get rfl) rfl (by first | rfl | assumption) (by repeat (first | exact Upd.here | apply Upd.there)) (by omega) ?_))) | ((with_reducible refine Knd.indexAddr ?_); (first | (refine Exec.stab rfl (Stab.indexB0 rfl rfl (tysOk.get rfl) rfl (tysOk.get rfl) rfl (by omega) (by omega)) rfl ?_) | (refine Exec.stab rfl (Stab.indexAddr rfl rfl (tysOk.get rfl) rfl (tysOk.get rfl) rfl (by omega) (by omega) (by first | rfl | assumption)) rfl ?_))))) | (with_reducible refine Tr.next ?_) | (with_reducible refine Tr.seq ?_) | (with_reducible refine Tr.region ?_) | (with_reducible refine Tr.nil ?_) | ((refine Tr.guard_l rfl rfl rfl (by first | (with_reducible rfl) | (with_reducible assumption) | (with_reducible exact Bool.not_true) | (with_reducible exact Bool.not_false)) ?_); (first | ((with_reducible refine Knd.move ?_); (refine Exec.stab rfl (Stab.move rfl) rfl ?_)) | ((with_reducible refine Knd.binOp ?_); ((refine Exec.stab rfl (Stab.int rfl rfl rfl) rfl ?_))))) | (with_reducible refine Tr.skip ?_) | (with_reducible refine Tr.block ?_) | (with_reducible refine Tr.in_normal ?_) | (refine Tr.cond_t rfl (by first | (with_reducible assumption) | (with_reducible rfl) | (with_reducible exact (not_not_intro rfl)) | omega) ?_))
        rw [intV_set]
        refine Tr.again (k + 1, xs.set k v) ⟨by simp only; omega, by simpa using hxl, fun q => ?_⟩ (by simp only; omega) (holds_sub (by repeat (first | exact SubFr.nil | refine SubFr.cons rfl ?_)) (by repeat (first | exact DropL.refl | apply DropL.skip)))
        simp only
        by_cases e : q = k
        · subst e
          rw [getD_set_self' (by omega), if_pos ⟨by omega, htd, hki⟩, hnd]
        · rw [getD_set_ne' (Ne.symm e), hxs q]
          have : q < k + 1 ↔ q < k := by omega
          simp only [this]
    have ek : k = need.length := by omega
    subst ek
    have hxo : xs = othersL need t i := by
      apply List.ext_getElem?
      intro q
      by_cases hq : q < need.length
      · have h1 := hxs q
        rw [List.getD_eq_getElem?_getD] at h1
        have h2 := othersL_get need t i q
        rw [List.getD_eq_getElem?_getD] at h2
        simp only [hq, true_and] at h1
        rw [← h2] at h1
        obtain ⟨a, ha⟩ := get_of_lt (xs := xs) (i := q) (by omega)
        obtain ⟨b, hb⟩ := get_of_lt (xs := othersL need t i) (i := q) (by simpa using hq)
        rw [ha, hb] at h1 ⊢
        simpa using h1
      · rw [List.getElem?_eq_none (by omega), List.getElem?_eq_none (by simp; omega)]
    repeat (first | ((with_reducible refine Tr.step rfl ?_); (first | ((with_reducible refine Knd.move ?_); (refine Exec.stab rfl (Stab.move rfl) rfl ?_)) | ((with_reducible refine Knd.binOp ?_); ((refine Exec.stab rfl (Stab.int rfl rfl rfl) rfl ?_))))) | (with_reducible refine Tr.next ?_) | (with_reducible refine Tr.seq ?_) | (with_reducible refine Tr.region ?_) | (with_reducible refine Tr.nil ?_) | (with_reducible refine Tr.exit ?_) | (with_reducible refine Tr.then_exit ?_) | ((with_reducible refine Tr.in_exit ?_ ?_); (exact rfl)) | (refine Tr.cond_f rfl (by first | (with_reducible assumption) | (with_reducible rfl) | (with_reducible exact (not_not_intro rfl)) | omega) ?_))
    refine Tr.publish (r := box ob 3 _) (by repeat (first | exact Del.here | apply Del.there)) (fun M1 hm1 hok => ?_)
    have hI := Ints.ofBox hok (by omega)
    rw [hxo] at hI
    rw [othersL_length] at hI
    repeat (fail)
    ((refine Tr.step rfl ?_))
    refine Exec.yield (A := ownS 4 1 B need.length c (boV t) :: A') (F := box nb 23 [.slice A2 need.length c2] :: box tb 43 [.slice B need.length c] :: F) rfl rfl (hy i t A' M1 _ _ (by omega) ht (hM.trans hm1) hJ hI) ((List.perm_middle (l₁ := ownS 4 1 B need.length c (boV t) :: A')).trans ((List.perm_middle (l₁ := ownS 4 1 B need.length c (boV t) :: A')).cons _)) rfl ?_
    rintro v M2 A'' hm2 ⟨rfl, t', A3, rfl, ht', hJ'⟩
    refine Tr.perm (L' := box nb 23 [.slice A2 need.length c2] :: box tb 43 [.slice B need.length c] :: ownS 4 1 B need.length c (boV t') :: (A3 ++ F)) ((List.perm_middle (l₁ := ownS 4 1 B need.length c (boV t') :: A3)).trans ((List.perm_middle (l₁ := ownS 4 1 B need.length c (boV t') :: A3)).cons _)).symm ?_
    repeat (first | ((with_reducible refine Tr.step rfl ?_); (first | ((with_reducible refine Knd.move ?_); (refine Exec.stab rfl (Stab.move rfl) rfl ?_)) | ((with_reducible refine Knd.assign ?_); (refine Exec.stab rfl (Stab.assign rfl) rfl ?_)) | ((with_reducible refine Knd.binOp ?_); ((refine Exec.stab rfl (Stab.subi rfl rfl (by omega)) rfl ?_))) | ((with_reducible refine Knd.unOp ?_); ((refine Exec.stab rfl (Stab.not rfl) rfl ?_))))) | (with_reducible refine Tr.next ?_) | (with_reducible refine Tr.region ?_) | (with_reducible refine Tr.nil ?_) | (with_reducible refine Tr.skip ?_) | (with_reducible refine Tr.in_normal ?_) | (refine Tr.cond_bf rfl (by first | (with_reducible rfl) | (with_reducible assumption) | (with_reducible exact Bool.not_true) | (with_reducible exact Bool.not_false)) ?_))
    refine Tr.again (i, t', A3, M2) ⟨by simp only; omega, ht', (hM.trans hm1).trans hm2, hJ'⟩ (by simp only; omega) (holds_sub (by repeat (first | exact SubFr.nil | refine SubFr.cons rfl ?_)) (by repeat (first | exact DropL.refl | apply DropL.skip)))
end Go.Proofs.Ytmioocddmlfboaa
