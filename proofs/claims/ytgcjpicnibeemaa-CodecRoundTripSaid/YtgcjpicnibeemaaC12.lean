/-
  The codec: the contracts of Few and few; what they bound.
  Conditions: none.
-/
import Derived.Test.YtgcjpicnibeemaaC11
namespace Go.Proofs.Ytgcjpicnibeemaa
open Go Bf
attribute [local irreducible] Tr Exec Stab HasTy Go.Addr.add IntKind.wrap
/-- few, as the reference says it -/
def fewV (v : Val) : Bool := decide (cnt 21 v ≤ 200)
set_option maxHeartbeats 1000000 in
theorem refFew_fn (M : Mem) (v : Val) (r : Value) (hr : RV M r v) : Fn0 Try.prog 25 [r, .int .i64 20] M (fun r M' => r = .bool (fewV v) ∧ M = M') := by
  obtain ⟨A, c, rfl, hR, -⟩ := hr.open_
  have hc := count_fn M 21 (by omega) v _ hR
  rw [show ((21 : Nat) : Int) - 1 = 20 by omega] at hc
  refine Fn.intro Try.func25 rfl rfl Try.ntmps25 rfl fun E F => ?_
  repeat (first | ((with_reducible refine Tr.step rfl ?_); (first | ((with_reducible refine Knd.move ?_); (refine Exec.stab rfl (Stab.move rfl) rfl ?_)) | ((with_reducible refine Knd.assign ?_); (refine Exec.stab rfl (Stab.assign rfl) rfl ?_)) | ((with_reducible refine Knd.load ?_); ((refine Exec.stab rfl (Stab.loadW rfl (tysOk.get rfl) rfl (by repeat (first | exact Has.here | apply Has.there)) rfl) rfl ?_))) | ((with_reducible refine Knd.box ?_); (first | (refine Exec.box rfl rfl (fun b => ?_)) | (refine Exec.box1 rfl (by first | rfl | assumption) rfl (fun b => ?_)))))) | (with_reducible refine Tr.next ?_) | (with_reducible refine Tr.seq ?_) | (with_reducible refine Tr.region ?_) | (with_reducible refine Tr.nil ?_))
  ((refine Tr.step rfl ?_)); refine Exec.call0 rfl (hc) rfl ?_
  rintro _ _ _ ⟨rfl, rfl⟩
  repeat (first | ((with_reducible refine Tr.step rfl ?_); (first | ((with_reducible refine Knd.assign ?_); (refine Exec.stab rfl (Stab.assign rfl) rfl ?_)) | ((with_reducible refine Knd.binOp ?_); ((refine Exec.stab rfl (Stab.int rfl rfl rfl) rfl ?_))))) | (with_reducible refine Tr.next ?_) | (with_reducible refine Tr.nil ?_) | (with_reducible refine Tr.ret ?_))
  (refine Tr.done (by first | exact .inl rfl | exact .inr rfl) rfl (by repeat (first | exact RVs.nil | (apply RVs.cons; (exact RV.tmp rfl)))) (by first | exact Mem.le.refl _ | assumption) (by exact ⟨[_], rfl⟩) ⟨rfl, ?_⟩)
  refine ⟨?_, rfl⟩
  show Value.bool (decide ((cnt 21 v : Int) ≤ 200)) = _
  unfold fewV
  congr 1
  exact decide_eq_decide.2 (by omega)
set_option maxHeartbeats 2000000 in
theorem few_fn (M : Mem) (l : List Val) (A : Option Addr) (c : Nat) (hl : RVals M (.slice A l.length c) l) : Fn0 Try.prog 11 [.slice A l.length c] M (fun r M' => r = .bool (l.all fewV) ∧ M = M') := by
  have hll := hl.len_le
  refine Fn.intro Try.func11 rfl rfl Try.ntmps11 rfl fun E F => ?_
  repeat (first | ((with_reducible refine Tr.step rfl ?_); (first | ((with_reducible refine Knd.move ?_); (refine Exec.stab rfl (Stab.move rfl) rfl ?_)) | ((with_reducible refine Knd.assign ?_); (refine Exec.stab rfl (Stab.assign rfl) rfl ?_)) | ((with_reducible refine Knd.len ?_); ((refine Exec.stab rfl (Stab.len rfl (tysOk.get rfl) rfl) rfl ?_))))) | (with_reducible refine Tr.next ?_) | (with_reducible refine Tr.seq ?_) | (with_reducible refine Tr.region ?_) | (with_reducible refine Tr.nil ?_) | (with_reducible refine Tr.block ?_))
  refine Tr.loop (α := Nat) (fun i => ⟨15, [(7, .int .i64 i), (6, .int .i64 l.length), (5, .slice A l.length c), (2, .bool false)], [], M, [] ++ F⟩) (fun i => i ≤ l.length ∧ l.all fewV = (l.drop i).all fewV) (fun i => l.length - i) 0 ⟨Nat.zero_le _, rfl⟩ (holds_sub (by repeat (first | exact SubFr.nil | refine SubFr.cons rfl ?_)) (by repeat (first | exact DropL.refl | apply DropL.skip))) (fun i hi => ?_)
  obtain ⟨hi, ha⟩ := hi
  by_cases hlt : i < l.length
  · obtain ⟨x, hx⟩ := get_of_lt hlt
    obtain ⟨hA1, ch1, hat1, hxv⟩ := hl.elem hx
    have hf := refFew_fn M x _ ⟨_, rfl, hxv⟩
    obtain ⟨A1, c1, he, -⟩ := hxv.open_
    rw [he] at hat1 hf hxv
    have hdr : l.drop i = x :: l.drop (i + 1) := by
      rw [List.drop_eq_getElem_cons hlt]
      rw [List.getElem?_eq_getElem hlt] at hx
      cases hx
      rfl
    rw [hdr, List.all_cons] at ha
    repeat (first | ((with_reducible refine Tr.step rfl ?_); (first | ((with_reducible refine Knd.load ?_); (first | (refine Exec.stab rfl (Stab.loadW rfl (tysOk.get rfl) rfl (by repeat (first | exact Has.here | apply Has.there)) rfl) rfl ?_) | (refine Exec.stab rfl (Stab.loadMA rfl (tysOk.get rfl) rfl (by assumption) rfl) rfl ?_))) | ((with_reducible refine Knd.binOp ?_); ((refine Exec.stab rfl (Stab.int rfl rfl rfl) rfl ?_))) | ((with_reducible refine Knd.store ?_); ((refine Exec.storeW rfl rfl (tysOk.get rfl) (by repeat (first | exact Upd.here | apply Upd.there)) rfl rfl (by repeat (first | exact AllOne.nil | refine AllOne.cons (by first | rfl | assumption) ?_)) ?_))) | ((with_reducible refine Knd.alloc ?_); (first | (refine Exec.alloc (tysOk.get rfl) rfl rfl (fun b => ?_)) | (refine Exec.alloc1 (tysOk.get rfl) rfl rfl rfl (fun b => ?_)))) | ((with_reducible refine Knd.indexAddr ?_); ((refine Exec.stab rfl (Stab.indexAddr rfl rfl (tysOk.get rfl) rfl (tysOk.get rfl) rfl (by omega) (by omega) (by first | rfl | assumption)) rfl ?_))))) | (with_reducible refine Tr.next ?_) | (with_reducible refine Tr.seq ?_) | (with_reducible refine Tr.region ?_) | (with_reducible refine Tr.nil ?_) | (with_reducible refine Tr.skip ?_) | (with_reducible refine Tr.block ?_) | (refine Tr.cond_t rfl (by first | (with_reducible assumption) | omega) ?_))
    ((refine Tr.step rfl ?_)); refine Exec.call0 rfl (hf) rfl ?_
    rintro _ _ _ ⟨rfl, rfl⟩
    by_cases hb : fewV x = true
    · rw [hb] at ha ⊢
      repeat (first | ((with_reducible refine Tr.step rfl ?_); (first | ((with_reducible refine Knd.move ?_); (refine Exec.stab rfl (Stab.move rfl) rfl ?_)) | ((with_reducible refine Knd.binOp ?_); ((refine Exec.stab rfl (Stab.addi rfl rfl (by omega)) rfl ?_))) | ((with_reducible refine Knd.unOp ?_); (first | (refine Exec.stab rfl (Stab.notd rfl) rfl ?_) | (refine Exec.stab rfl (Stab.not rfl) rfl ?_) | (refine Exec.stab rfl (Stab.neg rfl (by omega)) rfl ?_))))) | (with_reducible refine Tr.next ?_) | (with_reducible refine Tr.region ?_) | (with_reducible refine Tr.nil ?_) | (with_reducible refine Tr.skip ?_) | (with_reducible refine Tr.in_normal ?_) | (refine Tr.cond_bf rfl (by first | (with_reducible rfl) | (with_reducible assumption) | (with_reducible exact Bool.not_true) | (with_reducible exact Bool.not_false)) ?_))
      refine Tr.give (r := box _ 24 _) (by repeat (first | exact Del.here | apply Del.there)) ?_
      refine Tr.again (i + 1) ⟨by omega, by simpa using ha⟩ (by omega) (holds_sub (by repeat (first | exact SubFr.nil | refine SubFr.cons rfl ?_)) (by repeat (first | exact DropL.refl | apply DropL.skip)))
    · have hb : fewV x = false := by simpa using hb
      rw [hb] at ha ⊢
      repeat (first | ((with_reducible refine Tr.step rfl ?_); (first | ((with_reducible refine Knd.assign ?_); (refine Exec.stab rfl (Stab.assign rfl) rfl ?_)) | ((with_reducible refine Knd.unOp ?_); (first | (refine Exec.stab rfl (Stab.notd rfl) rfl ?_) | (refine Exec.stab rfl (Stab.not rfl) rfl ?_) | (refine Exec.stab rfl (Stab.neg rfl (by omega)) rfl ?_))))) | (with_reducible refine Tr.next ?_) | (with_reducible refine Tr.seq ?_) | (with_reducible refine Tr.region ?_) | (with_reducible refine Tr.nil ?_) | (with_reducible refine Tr.ret ?_) | (with_reducible refine Tr.then_ret ?_) | (with_reducible refine Tr.in_ret ?_) | (refine Tr.cond_bt rfl (by first | (with_reducible rfl) | (with_reducible assumption) | (with_reducible exact Bool.not_true) | (with_reducible exact Bool.not_false)) ?_))
      (refine Tr.done (by first | exact .inl rfl | exact .inr rfl) rfl (by repeat (first | exact RVs.nil | (apply RVs.cons; (exact RV.tmp rfl)))) (by first | exact Mem.le.refl _ | assumption) (by exact ⟨[_], rfl⟩) ⟨rfl, ?_⟩)
      exact ⟨by rw [ha]; rfl, rfl⟩
  · rw [List.drop_eq_nil_of_le (by omega)] at ha
    repeat (first | ((with_reducible refine Tr.step rfl ?_); (first | ((with_reducible refine Knd.assign ?_); (refine Exec.stab rfl (Stab.assign rfl) rfl ?_)) | ((with_reducible refine Knd.binOp ?_); ((refine Exec.stab rfl (Stab.int rfl rfl rfl) rfl ?_))))) | (with_reducible refine Tr.next ?_) | (with_reducible refine Tr.seq ?_) | (with_reducible refine Tr.region ?_) | (with_reducible refine Tr.nil ?_) | (with_reducible refine Tr.exit ?_) | (with_reducible refine Tr.ret ?_) | (with_reducible refine Tr.then_exit ?_) | ((with_reducible refine Tr.in_exit ?_ ?_); (exact rfl)) | (refine Tr.cond_f rfl (by first | (with_reducible assumption) | omega) ?_))
    (refine Tr.done (by first | exact .inl rfl | exact .inr rfl) rfl (by repeat (first | exact RVs.nil | (apply RVs.cons; (exact RV.tmp rfl)))) (by first | exact Mem.le.refl _ | assumption) (by exact ⟨[], rfl⟩) ⟨rfl, ?_⟩)
    exact ⟨by rw [ha]; rfl, rfl⟩
theorem cntL_ge {f : Val → Nat} : ∀ (l : List Val) (n : Nat), n ≤ cntL f n l
  | [], n => Nat.le_refl _
  | x :: l, n => by
    rw [cntL]
    split
    · have := cntL_ge (f := f) l (n + f x); omega
    · exact Nat.le_refl _
theorem cntL_sum {f : Val → Nat} : ∀ (l : List Val) (n : Nat), cntL f n l ≤ 200 → cntL f n l = n + (l.map f).sum
  | [], n, _ => by simp [cntL]
  | x :: l, n, h => by
    have h0 : n ≤ 200 := Nat.le_trans (cntL_ge (f := f) (x :: l) n) h
    rw [cntL, if_pos (by omega)] at h ⊢
    rw [cntL_sum l _ h]
    simp
    omega
theorem sum_mem {f : Val → Nat} {l : List Val} {x : Val} (h : x ∈ l) : f x ≤ (l.map f).sum := by
  induction l with
  | nil => cases h
  | cons y l ih =>
    rw [List.map_cons, List.sum_cons]
    rcases List.mem_cons.1 h with rfl | h
    · omega
    · have := ih h; omega
theorem encL_sum {f : Val → Nat} {K : Nat} : ∀ (l : List Val), (∀ x ∈ l, (enc x).length ≤ K * f x) → (encL l).length ≤ K * (l.map f).sum
  | [], _ => by simp [encL]
  | x :: l, h => by
    rw [encL, List.length_append, List.map_cons, List.sum_cons, Nat.mul_add]
    have h1 := h x (by simp)
    have h2 := encL_sum l (fun y hy => h y (by simp [hy]))
    omega
theorem cnt_bounds : ∀ (d : Nat) (v : Val), Ok64 v → cnt d v ≤ 200 → (enc v).length ≤ 400 * cnt d v ∧ depth v ≤ d := by
  intro d
  induction d with
  | zero => intro v _ h; rw [cnt] at h; omega
  | succ d ih =>
    intro v ho h
    rw [cnt] at h ⊢
    split at h
    · omega
    · rename_i h150
      rw [if_neg h150]
      have hs := cntL_sum _ _ h
      rw [hs] at h ⊢
      have hm : ∀ x ∈ v.l, (enc x).length ≤ 400 * cnt d x ∧ depth x ≤ d := fun x hx => by
        have := sum_mem (f := cnt d) hx
        exact ih x (ho.l x hx) (by omega)
      have hz := num_len_le (zz_lt ho.n)
      have hsn := num_len_le (u := v.s.length) (by omega)
      have hln := num_len_le (u := v.l.length) (by omega)
      have hel := encL_sum (f := cnt d) (K := 400) v.l (fun x hx => (hm x hx).1)
      have hdd : depth v ≤ d + 1 := by
        by_cases k3 : v.k = 3
        · rw [depth3 k3]
          have := depthL_max fun x hx => (hm x hx).2
          omega
        · cases v with
          | mk k n s l =>
            have k3 : ¬ k = 3 := k3
            rw [depth, if_neg k3]
            omega
      refine ⟨?_, hdd⟩
      by_cases k1 : v.k = 1
      · rw [enc1 k1]; simp; omega
      · by_cases k2 : v.k = 2
        · rw [enc2 k2]; simp; omega
        · by_cases k3 : v.k = 3
          · rw [enc3 k3]; simp; omega
          · have : enc v = [] := by
              cases v with
              | mk k n s l =>
                have k1 : ¬ k = 1 := k1
                have k2 : ¬ k = 2 := k2
                have k3 : ¬ k = 3 := k3
                rw [enc, if_neg k1, if_neg k2, if_neg k3]
            rw [this]; simp
theorem few_bounds {v : Val} (ho : Ok64 v) (h : fewV v = true) : (enc v).length ≤ 80000 ∧ depth v ≤ 21 := by
  have h := of_decide_eq_true h
  have := cnt_bounds 21 v ho h
  omega
end Go.Proofs.Ytgcjpicnibeemaa
