/-
  The disk: the contract of New.
  Conditions: none.
-/
import Derived.Test.YtfmfakgokgcjmaaD2
namespace Go.Proofs.Ytfmfakgokgcjmaa
open Go Bf
attribute [local irreducible] Tr Exec Stab HasTy Go.Addr.add IntKind.wrap
def zsec : List UInt8 := List.replicate 128 0
def newF (n : Int) : Dsk × Int := if 1 ≤ n ∧ n ≤ 4096 then (⟨List.replicate n.toNat zsec, [], -1, false⟩, 0) else (zD, 1)

/-- the cells of a half made table of sectors -/
def Half (M : Mem) (n i : Nat) (cs : List Value) : Prop := cs.length = n ∧ (∀ u ∈ cs, u.oneCell' = true) ∧ ∀ j, j < i → ∃ A k, cs[j]? = some (.slice A 128 k) ∧ BSl M (.slice A 128 k) zsec
theorem Half.set {M M' : Mem} {n i : Nat} {cs : List Value} {A : Option Addr} {k : Nat} (h : Half M n i cs) (hi : i < n) (hm : Mem.le M M') (hb : BSl M' (.slice A 128 k) zsec) : Half M' n (i + 1) (cs.set i (.slice A 128 k)) := by
  obtain ⟨h1, h2, h3⟩ := h
  refine ⟨by simpa using h1, fun u hu => ?_, fun j hj => ?_⟩
  · rcases List.mem_or_eq_of_mem_set hu with h | rfl
    · exact h2 u h
    · rfl
  · by_cases e : j = i
    · subst e
      exact ⟨A, k, by rw [List.getElem?_set_self (by omega)], hb⟩
    · obtain ⟨A, k, h4, h5⟩ := h3 j (by omega)
      exact ⟨A, k, by rw [List.getElem?_set_ne (by omega)]; exact h4, h5.mono hm⟩
theorem Half.done {M : Mem} {n : Nat} {cs : List Value} {b t : Nat} (h : Half M n n cs) (hb : (box b t cs).ok M) (hn : n ≤ 9223372036854775807) : SlOf 1 RSec M (.slice (some ⟨b, 0, none⟩) n n) (List.replicate n zsec) := by
  obtain ⟨h1, h2, h3⟩ := h
  have hr := Row.of_box (n := n) (sz := 1) hb (by omega) (fun u hu => h2 u (List.mem_of_mem_take hu))
  have e : cs.take (n * 1) = cs := by rw [List.take_of_length_le]; omega
  rw [e] at hr
  have hs : SlOf 1 RSec M (.slice (some ⟨b, 0, none⟩) (List.replicate n zsec).length n) (List.replicate n zsec) := by
    refine ⟨_, _, cs, rfl, by simp, hn, fun h => (by cases h), by simpa using hr, fun i x hx => ?_⟩
    obtain ⟨hi, e⟩ := List.getElem?_eq_some_iff.1 hx
    simp at hi e
    subst e
    obtain ⟨A, k, h4, h5⟩ := h3 i hi
    refine ⟨A, k, ?_, h5⟩
    rw [List.getElem?_eq_some_iff] at h4
    obtain ⟨h6, h7⟩ := h4
    rw [Nat.mul_one, List.take_one, List.head?_drop, List.getElem?_eq_getElem h6, h7]; rfl
  simpa using hs

set_option maxHeartbeats 1000000 in
theorem new_fn (M : Mem) (n : Int) :
    Fn0 Try.prog 12 [.int .i64 n] M (fun r M' => RPair M' r (newF n)) := by
  refine Fn.intro Try.func12 rfl rfl Try.ntmps12 rfl fun E F => ?_
  by_cases hn : 1 ≤ n ∧ n ≤ 4096
  · obtain ⟨hn1, hn2⟩ := hn
    obtain ⟨m, rfl⟩ : ∃ m : Nat, n = (m : Int) := ⟨n.toNat, by omega⟩
    repeat (first | ((with_reducible refine Tr.step rfl ?_); (first | ((with_reducible refine Knd.move ?_); (refine Exec.stab rfl (Stab.move rfl) rfl ?_)) | ((with_reducible refine Knd.assign ?_); (refine Exec.stab rfl (Stab.assign rfl) rfl ?_)) | ((with_reducible refine Knd.load ?_); ((refine Exec.stab rfl (Stab.load rfl (tysOk.get rfl) rfl (by repeat (first | exact Has.here | apply Has.there)) rfl) rfl ?_))) | ((with_reducible refine Knd.fieldAddr ?_); ((refine Exec.stab rfl (Stab.fieldZ rfl (tysOk.get rfl) rfl rfl (tysOk.get rfl) rfl) rfl ?_))) | ((with_reducible refine Knd.len ?_); (first | (refine Exec.stab rfl (Stab.len rfl (tysOk.get rfl) rfl) rfl ?_) | (refine Exec.stab rfl (Stab.lens rfl (tysOk.get rfl) rfl) rfl ?_))) | ((with_reducible refine Knd.binOp ?_); ((refine Exec.stab rfl (Stab.int rfl rfl rfl) rfl ?_))) | ((with_reducible refine Knd.pick ?_); ((refine Exec.stab rfl (Stab.pick_fd rfl (by first | assumption | omega) rfl) rfl ?_))) | ((with_reducible refine Knd.store ?_); ((refine Exec.store rfl rfl (tysOk.get rfl) rfl (by first | rfl | assumption) (by repeat (first | exact Upd.here | apply Upd.there)) (by repeat (first | exact SetL.z | apply SetL.s)) ?_))) | ((with_reducible refine Knd.alloc ?_); (first | (refine Exec.alloc (tysOk.get rfl) rfl rfl (fun b => ?_)) | (refine Exec.alloc1 (tysOk.get rfl) rfl rfl rfl (fun b => ?_)))) | ((with_reducible refine Knd.makeSlice ?_); (refine Exec.make rfl rfl (tysOk.get rfl) rfl (tysOk.get rfl) rfl rfl rfl (by omega) (by omega) (by first | omega | (simp; done) | (simp; omega)) (by omega) rfl (fun b => ?_))))) | (with_reducible refine Tr.next ?_) | (with_reducible refine Tr.seq ?_) | (with_reducible refine Tr.region ?_) | (with_reducible refine Tr.nil ?_) | ((refine Tr.guard_y' rfl rfl rfl (by first | assumption | omega) ?_); (first | ((with_reducible refine Knd.move ?_); (refine Exec.stab rfl (Stab.move rfl) rfl ?_)) | ((with_reducible refine Knd.binOp ?_); ((refine Exec.stab rfl (Stab.int rfl rfl rfl) rfl ?_))))) | (with_reducible refine Tr.skip ?_) | (with_reducible refine Tr.block ?_) | (refine Tr.cond_f rfl (by first | assumption | omega) ?_))
    refine Tr.loop (α := Nat × Mem × List Value) (fun x => ⟨29, [(18, .int .i64 x.1), (17, .int .i64 m), (16, .slice (some ⟨_, 0, none⟩) m m), (2, .pointer (some ⟨_, 0, none⟩)), (3, .int .i64 0)], [], x.2.1, box _ 35 x.2.2 :: box _ 25 [.slice (some ⟨_, 0, none⟩) m m, .slice none 0 0, .int .i64 0, .bool false] :: _⟩) (fun x => x.1 ≤ m ∧ Mem.le M x.2.1 ∧ Half x.2.1 m x.1 x.2.2) (fun x => m - x.1) (0, M, List.replicate m (.slice none 0 0)) ⟨Nat.zero_le _, Mem.le.refl _, by simp, fun u hu => by rw [List.eq_of_mem_replicate hu]; rfl, fun j hj => absurd hj (Nat.not_lt_zero _)⟩ (holds_sub (by repeat (first | exact SubFr.nil | refine SubFr.cons rfl ?_)) (by repeat (first | exact DropL.refl | apply DropL.skip))) (fun x hi => ?_)
    obtain ⟨i, M1, cs⟩ := x
    obtain ⟨hi, hm1, hh⟩ := hi
    simp only at hi hm1 hh
    dsimp only
    have hl := hh.1
    by_cases hlt : i < m
    · repeat (first | ((with_reducible refine Tr.step rfl ?_); (first | ((with_reducible refine Knd.move ?_); (refine Exec.stab rfl (Stab.move rfl) rfl ?_)) | ((with_reducible refine Knd.assign ?_); (refine Exec.stab rfl (Stab.assign rfl) rfl ?_)) | ((with_reducible refine Knd.binOp ?_); ((refine Exec.stab rfl (Stab.int rfl rfl rfl) rfl ?_))))) | (with_reducible refine Tr.next ?_) | (with_reducible refine Tr.seq ?_) | (with_reducible refine Tr.region ?_) | (with_reducible refine Tr.nil ?_) | (with_reducible refine Tr.skip ?_) | (with_reducible refine Tr.block ?_) | (refine Tr.cond_t rfl (by first | assumption | omega) ?_))
      (((apply Tr.draw); (kernel_rfl)); ((refine TrA.take 0 (by kernel_rfl) rfl (by kernel_rfl) (by first | exact fun _ _ _ h => h | exact fun _ _ _ h => nomatch h.1) (by first | exact fun _ h => h | (intro r h; cases h; done) | exact (Sub.mem (by repeat (first | exact Sub.refl | apply Sub.cons)))) rfl (by exact Stab.fieldZ rfl (tysOk.get rfl) rfl rfl (tysOk.get rfl) rfl) rfl rfl ?_)); ((refine TrA.take 1 (by kernel_rfl) rfl (by kernel_rfl) (by first | exact fun _ _ _ h => h | exact fun _ _ _ h => nomatch h.1) (by first | exact fun _ h => h | (intro r h; cases h; done) | exact (Sub.mem (by repeat (first | exact Sub.refl | apply Sub.cons)))) rfl (by exact Stab.load rfl (tysOk.get rfl) rfl (by repeat (first | exact Has.here | apply Has.there)) rfl) rfl rfl ?_)); ((refine TrA.take 2 (by kernel_rfl) rfl (by kernel_rfl) (by first | exact fun _ _ _ h => h | exact fun _ _ _ h => nomatch h.1) (by first | exact fun _ h => h | (intro r h; cases h; done) | exact (Sub.mem (by repeat (first | exact Sub.refl | apply Sub.cons)))) rfl (by exact Stab.move rfl) rfl rfl ?_)); (refine TrA.eff 3 rfl (by kernel_rfl) (by first | exact .inl rfl | exact .inr ⟨_, _, _, rfl, rfl, rfl⟩) ?_); (((refine Knd.makeSlice ?_); (refine Exec.make rfl rfl (tysOk.get rfl) rfl (tysOk.get rfl) rfl rfl rfl (by omega) (by omega) (by first | omega | (simp; done) | (simp; omega)) (by omega) rfl (fun b => ?_)))); (refine ⟨(by first | exact Mem.le.refl _ | assumption), (by first | exact fun _ h => h | (intro r h; cases h; done) | exact (Sub.mem (by repeat (first | exact Sub.refl | apply Sub.cons)))), ?_⟩); ((refine TrA.take 4 (by kernel_rfl) rfl (by kernel_rfl) (by first | exact fun _ _ _ h => h | exact fun _ _ _ h => nomatch h.1) (by first | exact fun _ h => h | (intro r h; cases h; done) | exact (Sub.mem (by repeat (first | exact Sub.refl | apply Sub.cons)))) rfl (by exact Stab.indexB0 rfl rfl (tysOk.get rfl) rfl (tysOk.get rfl) rfl (by omega) (by omega)) rfl rfl ?_)); (refine TrA.effD 5 rfl (by kernel_rfl) (by kernel_rfl) (by first | exact .inl rfl | exact .inr ⟨_, _, _, rfl, rfl, rfl⟩) ?_); (((refine Knd.store ?_); ((refine Exec.storeS rfl rfl (tysOk.get rfl) rfl (by first | rfl | assumption) (by repeat (first | exact Upd.here | apply Upd.there)) (by omega) ?_)))); (refine ⟨_, fun _ h => h, ?_⟩); (refine TrA.done (by kernel_rfl) ?_))
      repeat (first | ((with_reducible refine Tr.step rfl ?_); (first | ((with_reducible refine Knd.move ?_); (refine Exec.stab rfl (Stab.move rfl) rfl ?_)) | ((with_reducible refine Knd.binOp ?_); ((refine Exec.stab rfl (Stab.addi rfl rfl (by omega)) rfl ?_))))) | (with_reducible refine Tr.next ?_) | (with_reducible refine Tr.region ?_) | (with_reducible refine Tr.nil ?_) | (with_reducible refine Tr.in_normal ?_))
      refine Tr.publish Del.here (fun M2 hm2 hok => ?_)
      have hb : BSl M2 (.slice (some ⟨_, 0, none⟩) 128 128) zsec := BSl.of_box (bs := zsec) (by rw [byteV_replicate] at hok; exact hok) (by simp [zsec])
      refine Tr.again (i + 1, M2, _) ⟨by simp only; omega, hm1.trans hm2, hh.set hlt hm2 hb⟩ (by simp only; omega) (holds_sub (by repeat (first | exact SubFr.nil | refine SubFr.cons rfl ?_)) (by repeat (first | exact DropL.refl | apply DropL.skip)))
    · have e : i = m := by omega
      subst e
      repeat (first | ((with_reducible refine Tr.step rfl ?_); (first | ((with_reducible refine Knd.assign ?_); (refine Exec.stab rfl (Stab.assign rfl) rfl ?_)) | ((with_reducible refine Knd.load ?_); ((refine Exec.stab rfl (Stab.loadW rfl (tysOk.get rfl) rfl (by repeat (first | exact Has.here | apply Has.there)) rfl) rfl ?_))) | ((with_reducible refine Knd.fieldAddr ?_); ((refine Exec.stab rfl (Stab.fieldZ rfl (tysOk.get rfl) rfl rfl (tysOk.get rfl) rfl) rfl ?_))) | ((with_reducible refine Knd.binOp ?_); ((refine Exec.stab rfl (Stab.int rfl rfl rfl) rfl ?_))) | ((with_reducible refine Knd.store ?_); (first | (refine Exec.store rfl rfl (tysOk.get rfl) rfl (by first | rfl | assumption) (by repeat (first | exact Upd.here | apply Upd.there)) (by repeat (first | exact SetL.z | apply SetL.s)) ?_) | (refine Exec.storeW rfl rfl (tysOk.get rfl) (by repeat (first | exact Upd.here | apply Upd.there)) rfl rfl (by repeat (first | exact AllOne.nil | refine AllOne.cons (by first | rfl | assumption) ?_)) ?_))))) | (with_reducible refine Tr.next ?_) | (with_reducible refine Tr.seq ?_) | (with_reducible refine Tr.region ?_) | (with_reducible refine Tr.nil ?_) | (with_reducible refine Tr.exit ?_) | (with_reducible refine Tr.ret ?_) | (with_reducible refine Tr.then_exit ?_) | ((with_reducible refine Tr.in_exit ?_ ?_); (exact rfl)) | (refine Tr.cond_f rfl (by first | assumption | omega) ?_))
      refine Tr.publish Del.here (fun M2 hm2 hok => ?_)
      have hm := hm1.trans hm2
      (refine Tr.done (by first | exact .inl rfl | exact .inr rfl) rfl (by repeat (first | exact RVs.nil | (apply RVs.cons; (first | exact RV.tmp rfl | exact RV.cellW (by rfl) (tysOk.get (by rfl)) (by rfl) (by repeat (first | exact Has.here | apply Has.there)) (by rfl))))) (by first | exact Mem.le.refl _ | assumption) (by exact ⟨[_], rfl⟩) ⟨rfl, ?_⟩)
      unfold newF
      rw [if_pos (by omega)]
      refine ⟨_, rfl, ?_⟩
      have hs := Half.done ⟨hh.1, hh.2.1, fun j hj => let ⟨A, k, h1, h2⟩ := hh.2.2 j hj; ⟨A, k, h1, h2.mono hm2⟩⟩ hok (by omega)
      have e : (i : Int).toNat = i := by omega
      have : ∀ A, SlOf 1 RSec M2 (.slice A (List.replicate (i : Int).toNat zsec).length i) (List.replicate (i : Int).toNat zsec) → RDisk M2 (.agg #[.slice A i i, .slice none 0 0, .int .i64 (-1), .bool false]) ⟨List.replicate (i : Int).toNat zsec, [], -1, false⟩ := fun A h => ⟨A, i, none, 0, by simp only [e, List.length_replicate]; rfl, h, SlOf.nil _ _ _⟩
      refine this _ ?_
      simp only [e, List.length_replicate]; exact hs
  · repeat' (first | ((with_reducible refine Tr.step rfl ?_); (first | ((with_reducible refine Knd.move ?_); (refine Exec.stab rfl (Stab.move rfl) rfl ?_)) | ((with_reducible refine Knd.assign ?_); (refine Exec.stab rfl (Stab.assign rfl) rfl ?_)) | ((with_reducible refine Knd.binOp ?_); ((refine Exec.stab rfl (Stab.int rfl rfl rfl) rfl ?_))) | ((with_reducible refine Knd.pick ?_); (first | (refine Exec.stab rfl (Stab.pick_td rfl (by first | assumption | omega) rfl) rfl ?_) | (refine Exec.stab rfl (Stab.pick_fd rfl (by first | assumption | omega) rfl) rfl ?_))) | ((with_reducible refine Knd.store ?_); ((refine Exec.storeW rfl rfl (tysOk.get rfl) (by repeat (first | exact Upd.here | apply Upd.there)) rfl rfl (by repeat (first | exact AllOne.nil | refine AllOne.cons (by first | rfl | assumption) ?_)) ?_))) | ((with_reducible refine Knd.alloc ?_); (first | (refine Exec.alloc (tysOk.get rfl) rfl rfl (fun b => ?_)) | (refine Exec.alloc1 (tysOk.get rfl) rfl rfl rfl (fun b => ?_)))) | ((with_reducible refine Knd.build ?_); (refine Exec.stab rfl (Stab.build tysOk rfl rfl rfl rfl (by repeat (exact BuildP.nil))) rfl ?_)))) | (with_reducible refine Tr.next ?_) | (with_reducible refine Tr.seq ?_) | (with_reducible refine Tr.region ?_) | (with_reducible refine Tr.nil ?_) | ((refine Tr.guard_y' rfl rfl rfl (by first | assumption | omega) ?_); (((with_reducible refine Knd.binOp ?_); ((refine Exec.stab rfl (Stab.int rfl rfl rfl) rfl ?_))))) | (refine Tr.guard_n' rfl rfl rfl (by first | assumption | omega) rfl rfl ?_) | (with_reducible refine Tr.ret ?_) | (with_reducible refine Tr.then_ret ?_) | (refine Tr.cond_bt rfl (by first | (with_reducible rfl) | assumption | (with_reducible exact Bool.not_true) | (with_reducible exact Bool.not_false)) ?_) | (refine Tr.cond_t rfl (by first | assumption | omega) ?_) | (((with_reducible refine Knd.move ?_); (refine Exec.stab rfl (Stab.move rfl) rfl ?_))) | ((refine Tr.guardd' rfl rfl rfl rfl rfl (fun hg => ?_) (fun hg => ?_))))
    all_goals
      first
        | (exfalso; omega)
        | ((refine Tr.done (by first | exact .inl rfl | exact .inr rfl) rfl (by repeat (first | exact RVs.nil | (apply RVs.cons; (first | exact RV.tmp rfl | exact RV.cellW (by rfl) (tysOk.get (by rfl)) (by rfl) (by repeat (first | exact Has.here | apply Has.there)) (by rfl))))) (by first | exact Mem.le.refl _ | assumption) (by exact ⟨[_], rfl⟩) ⟨rfl, ?_⟩)
           exact ⟨_, by unfold newF; rw [if_neg hn]; rfl, by unfold newF; rw [if_neg hn]; exact RDisk.zero M⟩)
end Go.Proofs.Ytfmfakgokgcjmaa
