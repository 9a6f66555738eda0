/-
  The codec: CodecLists walked.
  Conditions: none.
-/
import Derived.Test.YtgcjpicnibeemaaC20
namespace Go.Proofs.Ytgcjpicnibeemaa
open Go Bf
attribute [local irreducible] Tr Exec Stab HasTy Go.Addr.add IntKind.wrap
theorem chk_elem {x : Val} {l : List Val} (h : chk x ≠ 0) (hx : x ∈ l) : chk (.mk 3 0 [] l) ≠ 0 := by
  intro h0
  obtain ⟨hf, hd⟩ := chk_zero.1 h0
  refine h (chk_zero.2 ⟨formed_mem (v := .mk 3 0 [] l) hf hx, ?_⟩)
  have := depthL_mem hx
  rw [depth3 (v := .mk 3 0 [] l) rfl] at hd
  have hd : depthL l + 1 ≤ 16 := hd
  omega
theorem chk_all {l : List Val} (h : ∀ x ∈ l, chk x = 0) (h0 : chk (.mk 3 0 [] l) ≠ 0) : chk (.mk 3 0 [] l) = 2 := by
  have hf : formed (.mk 3 0 [] l) = true := by
    rw [formed, formedL_all, Bool.and_eq_true]
    exact ⟨by simp, List.all_eq_true.2 fun x hx => (chk_zero.1 (h x hx)).1⟩
  unfold chk at h0 ⊢
  rw [if_pos hf] at h0 ⊢
  split
  · rename_i h1; rw [if_pos h1] at h0; exact absurd rfl h0
  · rfl
def zlist (n : Nat) : List Val := List.replicate n (IntV 0)
theorem encL_zlist (n : Nat) : (encL (zlist n)).length = 2 * n := by
  induction n with
  | zero => rfl
  | succ n ih =>
    show (encL (IntV 0 :: zlist n)).length = _
    rw [encL, List.length_append, ih, enc_IntV]
    have : (num (zz 0)).length = 1 := by rw [show zz 0 = 0 from rfl, num_small (by omega)]; rfl
    simp [this]; omega
theorem depthL_zlist (n : Nat) : depthL (zlist n) = 0 := by
  induction n with
  | zero => rfl
  | succ n ih =>
    show depthL (IntV 0 :: zlist n) = _
    rw [depthL, ih]
    rfl
theorem chk_zlist (n : Nat) : chk (.mk 3 0 [] (zlist n)) = 0 := by
  refine chk_zero.2 ⟨?_, ?_⟩
  · rw [formed, formedL_all, Bool.and_eq_true]
    exact ⟨by simp, List.all_eq_true.2 fun x hx => by rw [List.eq_of_mem_replicate hx]; rfl⟩
  · rw [depth3 (v := .mk 3 0 [] (zlist n)) rfl]
    show depthL (zlist n) + 1 ≤ 16
    rw [depthL_zlist]; omega
theorem encL_bound {l : List Val} {B : Nat} (h : ∀ x ∈ l, (enc x).length ≤ B) : (encL l).length ≤ l.length * B := by
  induction l with
  | nil => simp [encL]
  | cons x l ih =>
    rw [encL, List.length_append, List.length_cons, Nat.add_mul, Nat.one_mul]
    have := h x (by simp)
    have := ih (fun y hy => h y (by simp [hy]))
    omega
theorem depthL_bound {l : List Val} {B : Nat} (h : ∀ x ∈ l, depth x ≤ B) : depthL l ≤ B := by
  induction l with
  | nil => simp [depthL]
  | cons x l ih =>
    rw [depthL]
    have := h x (by simp)
    have := ih (fun y hy => h y (by simp [hy]))
    omega
theorem RVal.int (M : Mem) (n : Int) (hn : -9223372036854775808 ≤ n ∧ n ≤ 9223372036854775807) : RVal M [.int .i64 1, .int .i64 n, .string ⟨#[]⟩, .slice none 0 0] (IntV n) := RVal.close (A := none) (c := 0) (l := []) (s := []) (by omega) hn (by simp) (SlOf.nil _ _ _)
set_option maxHeartbeats 8000000 in
theorem lists_fn (M : Mem) (l : List Val) (A : Option Addr) (c : Nat) (hl : RVals M (.slice A l.length c) l) : Fn0 Try.prog 8 [.slice A l.length c] M (fun r _ => r = .bool true) := by
  have hll := hl.len_le
  have hok : ∀ x ∈ l, Ok64 x := fun x hx => by
    obtain ⟨i, hi⟩ := List.mem_iff_getElem?.1 hx
    obtain ⟨_, ch, _, hv⟩ := hl.elem hi
    exact hv.ok64
  refine Fn.intro Try.func8 rfl rfl Try.ntmps8 rfl fun E F => ?_
  repeat (first | ((with_reducible refine Tr.step rfl ?_); (((with_reducible refine Knd.assign ?_); (refine Exec.stab rfl (Stab.assign rfl) rfl ?_)))) | (with_reducible refine Tr.next ?_) | (with_reducible refine Tr.seq ?_) | (with_reducible refine Tr.region ?_) | (with_reducible refine Tr.nil ?_))
  ((refine Tr.step rfl ?_)); refine Exec.call0 rfl (sane_fn M) rfl ?_
  rintro _ M1 hm1 rfl
  have hl := hl.mono (fun M M' c x => RVal.mono' M M' c x) hm1
  repeat (first | ((with_reducible refine Tr.step rfl ?_); (first | ((with_reducible refine Knd.move ?_); (refine Exec.stab rfl (Stab.move rfl) rfl ?_)) | ((with_reducible refine Knd.unOp ?_); (first | (refine Exec.stab rfl (Stab.notd rfl) rfl ?_) | (refine Exec.stab rfl (Stab.not rfl) rfl ?_) | (refine Exec.stab rfl (Stab.neg rfl (by omega)) rfl ?_))))) | (with_reducible refine Tr.next ?_) | (with_reducible refine Tr.seq ?_) | (with_reducible refine Tr.region ?_) | (with_reducible refine Tr.nil ?_) | (with_reducible refine Tr.skip ?_) | (refine Tr.cond_bf rfl (by first | (with_reducible rfl) | (with_reducible assumption) | (with_reducible exact Bool.not_true) | (with_reducible exact Bool.not_false)) ?_))
  ((refine Tr.step rfl ?_)); refine Exec.call0 rfl (few_fn M1 l A c hl) rfl ?_
  rintro _ _ _ ⟨rfl, rfl⟩
  by_cases hfew : l.all fewV = true
  rotate_left
  · have hfew : l.all fewV = false := by simpa using hfew
    rw [hfew]
    repeat (first | ((with_reducible refine Tr.step rfl ?_); (first | ((with_reducible refine Knd.move ?_); (refine Exec.stab rfl (Stab.move rfl) rfl ?_)) | ((with_reducible refine Knd.assign ?_); (refine Exec.stab rfl (Stab.assign rfl) rfl ?_)) | ((with_reducible refine Knd.pick ?_); ((refine Exec.stab rfl (Stab.pick_t rfl (by first | (with_reducible rfl) | (with_reducible assumption) | (with_reducible exact Bool.not_true) | (with_reducible exact Bool.not_false)) rfl) rfl ?_))) | ((with_reducible refine Knd.unOp ?_); (first | (refine Exec.stab rfl (Stab.notd rfl) rfl ?_) | (refine Exec.stab rfl (Stab.not rfl) rfl ?_) | (refine Exec.stab rfl (Stab.neg rfl (by omega)) rfl ?_))))) | (with_reducible refine Tr.next ?_) | (with_reducible refine Tr.seq ?_) | (with_reducible refine Tr.region ?_) | (with_reducible refine Tr.nil ?_) | (refine Tr.guard_s0 rfl rfl rfl (by first | (with_reducible rfl) | (with_reducible assumption) | (with_reducible exact Bool.not_true) | (with_reducible exact Bool.not_false)) rfl rfl ?_) | (with_reducible refine Tr.ret ?_) | (with_reducible refine Tr.then_ret ?_) | (refine Tr.cond_bt rfl (by first | (with_reducible rfl) | (with_reducible assumption) | (with_reducible exact Bool.not_true) | (with_reducible exact Bool.not_false)) ?_))
    (refine Tr.done (by first | exact .inl rfl | exact .inr rfl) rfl (by repeat (first | exact RVs.nil | (apply RVs.cons; (exact RV.tmp rfl)))) (by first | exact Mem.le.refl _ | assumption) (by exact ⟨[], rfl⟩) ⟨rfl, ?_⟩)
    rfl
  rw [hfew]
  by_cases h20 : 20 < l.length
  · repeat (first | ((with_reducible refine Tr.step rfl ?_); (first | ((with_reducible refine Knd.move ?_); (refine Exec.stab rfl (Stab.move rfl) rfl ?_)) | ((with_reducible refine Knd.assign ?_); (refine Exec.stab rfl (Stab.assign rfl) rfl ?_)) | ((with_reducible refine Knd.pick ?_); ((refine Exec.stab rfl (Stab.pick_f rfl (by first | (with_reducible rfl) | (with_reducible assumption) | (with_reducible exact Bool.not_true) | (with_reducible exact Bool.not_false)) rfl) rfl ?_))) | ((with_reducible refine Knd.unOp ?_); (first | (refine Exec.stab rfl (Stab.notd rfl) rfl ?_) | (refine Exec.stab rfl (Stab.not rfl) rfl ?_) | (refine Exec.stab rfl (Stab.neg rfl (by omega)) rfl ?_))))) | (with_reducible refine Tr.next ?_) | (with_reducible refine Tr.seq ?_) | (with_reducible refine Tr.region ?_) | (with_reducible refine Tr.nil ?_) | ((refine Tr.guard_l rfl rfl rfl (by first | (with_reducible rfl) | (with_reducible assumption) | (with_reducible exact Bool.not_true) | (with_reducible exact Bool.not_false)) ?_); (first | ((with_reducible refine Knd.move ?_); (refine Exec.stab rfl (Stab.move rfl) rfl ?_)) | ((with_reducible refine Knd.len ?_); ((refine Exec.stab rfl (Stab.len rfl (tysOk.get rfl) rfl) rfl ?_))) | ((with_reducible refine Knd.binOp ?_); ((refine Exec.stab rfl (Stab.int rfl rfl rfl) rfl ?_))))) | (with_reducible refine Tr.ret ?_) | (with_reducible refine Tr.then_ret ?_) | (refine Tr.cond_t rfl (by first | (with_reducible assumption) | (with_reducible rfl) | (with_reducible exact (not_not_intro rfl)) | omega) ?_))
    (refine Tr.done (by first | exact .inl rfl | exact .inr rfl) rfl (by repeat (first | exact RVs.nil | (apply RVs.cons; (exact RV.tmp rfl)))) (by first | exact Mem.le.refl _ | assumption) (by exact ⟨[], rfl⟩) ⟨rfl, ?_⟩)
    rfl
  have hfb : ∀ x ∈ l, (enc x).length ≤ 80000 ∧ depth x ≤ 21 := fun x hx => few_bounds (hok x hx) (List.all_eq_true.1 hfew x hx)
  have hel := encL_bound (fun x hx => (hfb x hx).1)
  have hdl := depthL_bound (fun x hx => (hfb x hx).2)
  have hnl := num_len_le (u := l.length) (by omega)
  have hlen3 : (enc (.mk 3 0 [] l)).length = 1 + (num l.length).length + (encL l).length := by rw [enc3 rfl]; show (3 :: (num l.length ++ encL l)).length = _; simp; omega
  have hdep3 : depth (.mk 3 0 [] l) = depthL l + 1 := depth3 (v := .mk 3 0 [] l) rfl
  repeat (first | ((with_reducible refine Tr.step rfl ?_); (first | ((with_reducible refine Knd.move ?_); (refine Exec.stab rfl (Stab.move rfl) rfl ?_)) | ((with_reducible refine Knd.assign ?_); (refine Exec.stab rfl (Stab.assign rfl) rfl ?_)) | ((with_reducible refine Knd.len ?_); ((refine Exec.stab rfl (Stab.len rfl (tysOk.get rfl) rfl) rfl ?_))) | ((with_reducible refine Knd.pick ?_); ((refine Exec.stab rfl (Stab.pick_f rfl (by first | (with_reducible rfl) | (with_reducible assumption) | (with_reducible exact Bool.not_true) | (with_reducible exact Bool.not_false)) rfl) rfl ?_))) | ((with_reducible refine Knd.unOp ?_); (first | (refine Exec.stab rfl (Stab.notd rfl) rfl ?_) | (refine Exec.stab rfl (Stab.not rfl) rfl ?_) | (refine Exec.stab rfl (Stab.neg rfl (by omega)) rfl ?_))))) | (with_reducible refine Tr.next ?_) | (with_reducible refine Tr.seq ?_) | (with_reducible refine Tr.region ?_) | (with_reducible refine Tr.nil ?_) | ((refine Tr.guard_l rfl rfl rfl (by first | (with_reducible rfl) | (with_reducible assumption) | (with_reducible exact Bool.not_true) | (with_reducible exact Bool.not_false)) ?_); (first | ((with_reducible refine Knd.move ?_); (refine Exec.stab rfl (Stab.move rfl) rfl ?_)) | ((with_reducible refine Knd.len ?_); ((refine Exec.stab rfl (Stab.len rfl (tysOk.get rfl) rfl) rfl ?_))) | ((with_reducible refine Knd.binOp ?_); ((refine Exec.stab rfl (Stab.int rfl rfl rfl) rfl ?_))))) | (with_reducible refine Tr.skip ?_) | (with_reducible refine Tr.block ?_) | (refine Tr.cond_f rfl (by first | (with_reducible assumption) | (with_reducible rfl) | (with_reducible exact (not_not_intro rfl)) | omega) ?_))
  refine Tr.own_nil 5 1 ?_
  refine Tr.own_nil 24 4 ?_
  refine Tr.loop (α := Nat × Mem × (Option Addr × Nat) × (Option Addr × Nat) × List Value) (fun y => ⟨127, [(31, .int .i64 y.1), (30, .int .i64 l.length), (29, .slice A l.length c), (5, .int .i64 ((encL (l.take y.1)).length : Int)), (4, .slice y.2.2.2.1.1 y.1 y.2.2.2.1.2), (3, .slice y.2.2.1.1 (encL (l.take y.1)).length y.2.2.1.2), (2, .bool false), (0, .slice A l.length c)], [], y.2.1,
      ownS 24 4 y.2.2.2.1.1 y.1 y.2.2.2.1.2 y.2.2.2.2 :: ownS 5 1 y.2.2.1.1 (encL (l.take y.1)).length y.2.2.1.2 (byteV (encL (l.take y.1))) :: ([] ++ F)⟩)
    (fun y => y.1 ≤ l.length ∧ Mem.le M1 y.2.1 ∧ y.2.2.1.2 ≤ 9223372036854775807 ∧ y.2.2.2.1.2 ≤ 9223372036854775807 ∧ (∀ x ∈ l.take y.1, chk x = 0) ∧ Elems 4 (fun M c x => RVal M c x) y.2.1 y.2.2.2.2 (zlist y.1))
    (fun y => l.length - y.1) (0, M1, (none, 0), (none, 0), []) ⟨Nat.zero_le _, Mem.le.refl _, by simp, by simp, by simp, Elems.nil⟩ (holds_sub (by repeat (first | exact SubFr.nil | refine SubFr.cons rfl ?_)) (by repeat (first | exact DropL.refl | apply DropL.skip))) (fun y hy => ?_)
  obtain ⟨i, M2, ⟨W, wc⟩, ⟨Z, zc⟩, cells⟩ := y
  obtain ⟨hi, hm2, hwc, hzc, hchk, hel4⟩ := hy
  simp only at hi hm2 hwc hzc hchk hel4
  dsimp only
  have hl2 := hl.mono (fun M M' c x => RVal.mono' M M' c x) hm2
  have htl := encL_take_le l i
  by_cases hlt : i < l.length
  · obtain ⟨x, hx⟩ := get_of_lt hlt
    obtain ⟨hA1, ch1, hat1, hxv⟩ := hl2.elem hx
    have hxm := List.mem_of_getElem? hx
    obtain ⟨hxe, hxd⟩ := hfb x hxm
    obtain ⟨A1, c1, he, -⟩ := hxv.open_
    have hRV : RV M2 (.agg ch1.toArray) x := ⟨ch1, rfl, hxv⟩
    rw [he] at hat1 hRV
    have htl2 := encL_take_le l (i + 1)
    have hen : encL (l.take (i + 1)) = encL (l.take i) ++ enc x := encL_take hx
    repeat (first | ((with_reducible refine Tr.step rfl ?_); (first | ((with_reducible refine Knd.load ?_); (first | (refine Exec.stab rfl (Stab.loadW rfl (tysOk.get rfl) rfl (by repeat (first | exact Has.here | apply Has.there)) rfl) rfl ?_) | (refine Exec.stab rfl (Stab.loadMA rfl (tysOk.get rfl) rfl (by assumption) rfl) rfl ?_))) | ((with_reducible refine Knd.binOp ?_); ((refine Exec.stab rfl (Stab.int rfl rfl rfl) rfl ?_))) | ((with_reducible refine Knd.store ?_); ((refine Exec.storeW rfl rfl (tysOk.get rfl) (by repeat (first | exact Upd.here | apply Upd.there)) rfl rfl (by repeat (first | exact AllOne.nil | refine AllOne.cons (by first | rfl | assumption) ?_)) ?_))) | ((with_reducible refine Knd.alloc ?_); (first | (refine Exec.alloc (tysOk.get rfl) rfl rfl (fun b => ?_)) | (refine Exec.alloc1 (tysOk.get rfl) rfl rfl rfl (fun b => ?_)))) | ((with_reducible refine Knd.indexAddr ?_); ((refine Exec.stab rfl (Stab.indexAddr rfl rfl (tysOk.get rfl) rfl (tysOk.get rfl) rfl (by omega) (by omega) (by first | rfl | assumption)) rfl ?_))))) | (with_reducible refine Tr.next ?_) | (with_reducible refine Tr.seq ?_) | (with_reducible refine Tr.region ?_) | (with_reducible refine Tr.nil ?_) | (with_reducible refine Tr.skip ?_) | (with_reducible refine Tr.block ?_) | (refine Tr.cond_t rfl (by first | (with_reducible assumption) | (with_reducible rfl) | (with_reducible exact (not_not_intro rfl)) | omega) ?_))
    ((refine Tr.step rfl ?_)); refine Exec.call0 rfl (encode_fn M2 x _ hRV (by omega) (by omega)) rfl ?_
    rintro _ M3 hm3 ⟨B3, k3, rfl, hb3⟩
    have hRV := hRV.mono hm3
    repeat (first | ((with_reducible refine Tr.step rfl ?_); (first | ((with_reducible refine Knd.move ?_); (refine Exec.stab rfl (Stab.move rfl) rfl ?_)) | ((with_reducible refine Knd.assign ?_); (refine Exec.stab rfl (Stab.assign rfl) rfl ?_)) | ((with_reducible refine Knd.load ?_); ((refine Exec.stab rfl (Stab.loadW rfl (tysOk.get rfl) rfl (by repeat (first | exact Has.here | apply Has.there)) rfl) rfl ?_))) | ((with_reducible refine Knd.extract ?_); (refine Exec.stab rfl (Stab.extract rfl rfl) rfl ?_)))) | (with_reducible refine Tr.next ?_) | (with_reducible refine Tr.seq ?_) | (with_reducible refine Tr.region ?_) | (with_reducible refine Tr.nil ?_))
    ((refine Tr.step rfl ?_)); refine Exec.call0 rfl (size_fn M3 x _ hRV (by omega) (by omega)) rfl ?_
    rintro _ _ _ ⟨rfl, rfl⟩
    have hsz : (sizeF x : Int) = ((encF x).length : Int) := by unfold sizeF encF; split <;> rfl
    rw [hsz]
    have hl3 := hl2.mono (fun M M' c x => RVal.mono' M M' c x) hm3
    by_cases cx : chk x = 0
    rotate_left
    · repeat (first | ((with_reducible refine Tr.step rfl ?_); (first | ((with_reducible refine Knd.move ?_); (refine Exec.stab rfl (Stab.move rfl) rfl ?_)) | ((with_reducible refine Knd.assign ?_); (refine Exec.stab rfl (Stab.assign rfl) rfl ?_)) | ((with_reducible refine Knd.binOp ?_); ((refine Exec.stab rfl (Stab.int rfl rfl rfl) rfl ?_))) | ((with_reducible refine Knd.pick ?_); ((refine Exec.stab rfl (Stab.pick_fd rfl (by first | (with_reducible assumption) | (with_reducible rfl) | (with_reducible exact (not_not_intro rfl)) | omega) rfl) rfl ?_))) | ((with_reducible refine Knd.extract ?_); (refine Exec.stab rfl (Stab.extract rfl rfl) rfl ?_)))) | (with_reducible refine Tr.next ?_) | (with_reducible refine Tr.seq ?_) | (with_reducible refine Tr.region ?_) | (with_reducible refine Tr.nil ?_) | ((refine Tr.guard_y' rfl rfl rfl (by first | (with_reducible assumption) | (with_reducible rfl) | (with_reducible exact (not_not_intro rfl)) | omega) ?_); (first | ((with_reducible refine Knd.move ?_); (refine Exec.stab rfl (Stab.move rfl) rfl ?_)) | ((with_reducible refine Knd.binOp ?_); ((refine Exec.stab rfl (Stab.int rfl rfl rfl) rfl ?_))) | ((with_reducible refine Knd.pick ?_); ((refine Exec.stab rfl (Stab.pick_fd rfl (by first | (with_reducible assumption) | (with_reducible rfl) | (with_reducible exact (not_not_intro rfl)) | omega) rfl) rfl ?_))))) | (refine Tr.guard_n rfl rfl rfl (by first | (with_reducible assumption) | (with_reducible rfl) | (with_reducible exact (not_not_intro rfl)) | omega) rfl rfl ?_) | (with_reducible refine Tr.skip ?_) | (refine Tr.cond_bf rfl (by first | (with_reducible rfl) | (with_reducible assumption) | (with_reducible exact Bool.not_true) | (with_reducible exact Bool.not_false)) ?_) | (refine Tr.cond_t rfl (by first | (with_reducible assumption) | (with_reducible rfl) | (with_reducible exact (not_not_intro rfl)) | omega) ?_))
      ((refine Tr.step rfl ?_)); refine Exec.call0 rfl (list_fn M3 A c l hl3) rfl ?_
      rintro r4 _ - ⟨h4, rfl⟩
      have hcl := chk_elem cx hxm
      ((refine Tr.step rfl ?_)); refine Exec.call0 rfl (encode_fn M3 (.mk 3 0 [] l) r4 h4 (by omega) (by omega)) rfl ?_
      rintro _ M4 hm4 ⟨B4, k4, rfl, hb4⟩
      have hm04 := hm1.trans (hm2.trans (hm3.trans hm4))
      repeat (first | ((with_reducible refine Tr.step rfl ?_); (first | ((with_reducible refine Knd.move ?_); (refine Exec.stab rfl (Stab.move rfl) rfl ?_)) | ((with_reducible refine Knd.assign ?_); (refine Exec.stab rfl (Stab.assign rfl) rfl ?_)) | ((with_reducible refine Knd.binOp ?_); ((refine Exec.stab rfl (Stab.int rfl rfl rfl) rfl ?_))) | ((with_reducible refine Knd.extract ?_); (refine Exec.stab rfl (Stab.extract rfl rfl) rfl ?_)))) | (with_reducible refine Tr.next ?_) | (with_reducible refine Tr.seq ?_) | (with_reducible refine Tr.region ?_) | (with_reducible refine Tr.nil ?_) | (with_reducible refine Tr.ret ?_) | (with_reducible refine Tr.then_ret ?_) | (with_reducible refine Tr.in_ret ?_))
      (refine Tr.done (by first | exact .inl rfl | exact .inr rfl) rfl (by repeat (first | exact RVs.nil | (apply RVs.cons; (exact RV.tmp rfl)))) (by first | exact Mem.le.refl _ | assumption) (by exact ⟨[_, _, _], rfl⟩) ⟨rfl, ?_⟩)
      show Value.bool (decide (chk (.mk 3 0 [] l) ≠ 0)) = _
      rw [decide_eq_true hcl]
    have hle3 : (encF x).length = (enc x).length := by rw [encF, if_pos cx]
    rw [show encF x = enc x by rw [encF, if_pos cx]] at *
    have hcap := hb3.cap
    repeat (first | ((with_reducible refine Tr.step rfl ?_); (first | ((with_reducible refine Knd.move ?_); (refine Exec.stab rfl (Stab.move rfl) rfl ?_)) | ((with_reducible refine Knd.assign ?_); (refine Exec.stab rfl (Stab.assign rfl) rfl ?_)) | ((with_reducible refine Knd.binOp ?_); ((refine Exec.stab rfl (Stab.int rfl rfl rfl) rfl ?_))) | ((with_reducible refine Knd.pick ?_); ((refine Exec.stab rfl (Stab.pick_fd rfl (by first | (with_reducible assumption) | (with_reducible rfl) | (with_reducible exact (not_not_intro rfl)) | omega) rfl) rfl ?_))) | ((with_reducible refine Knd.extract ?_); (refine Exec.stab rfl (Stab.extract rfl rfl) rfl ?_)))) | (with_reducible refine Tr.next ?_) | (with_reducible refine Tr.seq ?_) | (with_reducible refine Tr.region ?_) | (with_reducible refine Tr.nil ?_) | ((refine Tr.guard_y rfl rfl rfl (by first | (with_reducible assumption) | (with_reducible rfl) | (with_reducible exact (not_not_intro rfl)) | omega) ?_); (first | ((with_reducible refine Knd.move ?_); (refine Exec.stab rfl (Stab.move rfl) rfl ?_)) | ((with_reducible refine Knd.len ?_); ((refine Exec.stab rfl (Stab.len rfl (tysOk.get rfl) rfl) rfl ?_))) | ((with_reducible refine Knd.binOp ?_); ((refine Exec.stab rfl (Stab.int rfl rfl rfl) rfl ?_))))) | ((refine Tr.guard_y' rfl rfl rfl (by first | (with_reducible assumption) | (with_reducible rfl) | (with_reducible exact (not_not_intro rfl)) | omega) ?_); (first | ((with_reducible refine Knd.move ?_); (refine Exec.stab rfl (Stab.move rfl) rfl ?_)) | ((with_reducible refine Knd.binOp ?_); ((refine Exec.stab rfl (Stab.int rfl rfl rfl) rfl ?_))) | ((with_reducible refine Knd.pick ?_); ((refine Exec.stab rfl (Stab.pick_td rfl (by first | (with_reducible assumption) | (with_reducible rfl) | (with_reducible exact (not_not_intro rfl)) | omega) rfl) rfl ?_))))) | (with_reducible refine Tr.skip ?_) | (refine Tr.cond_f rfl (by first | (with_reducible assumption) | (with_reducible rfl) | (with_reducible exact (not_not_intro rfl)) | omega) ?_))
    refine Tr.give (r := box _ 24 _) (by repeat (first | exact Del.here | apply Del.there)) ?_
    ((refine Tr.step rfl ?_))
    refine Exec.append (news := byteV (enc x)) rfl rfl (tysOk.get rfl) rfl (tysOk.get rfl) rfl rfl rfl rfl (by repeat (first | exact Del.here | apply Del.there)) (Src.row hcap.2.2.2) (by simp) (byteV_one _) (by omega) (by omega) rfl (fun A7 c7 hc7 => ?_)
    rw [← byteV_append, ← hen, show (encL (l.take i)).length + (enc x).length = (encL (l.take (i + 1))).length by rw [hen]; simp]
    repeat (first | ((with_reducible refine Tr.step rfl ?_); (first | ((with_reducible refine Knd.move ?_); (refine Exec.stab rfl (Stab.move rfl) rfl ?_)) | ((with_reducible refine Knd.assign ?_); (refine Exec.stab rfl (Stab.assign rfl) rfl ?_)))) | (with_reducible refine Tr.next ?_) | (with_reducible refine Tr.seq ?_) | (with_reducible refine Tr.region ?_) | (with_reducible refine Tr.nil ?_))
    ((refine Tr.step rfl ?_)); refine Exec.call0 rfl (int_fn M3 0 (by omega)) rfl ?_
    rintro r5 _ - ⟨h5, rfl⟩
    obtain ⟨z, hz⟩ : ∃ z, z = Val.mk 1 0 [] [] := ⟨_, rfl⟩
    rw [← hz] at h5
    obtain ⟨A5, c5, rfl, h5v, -⟩ := h5.open_
    repeat (((with_reducible refine Tr.step rfl ?_); (((with_reducible refine Knd.buildSlice ?_); (refine Exec.buildSlice (tysOk.get rfl) rfl (tysOk.get rfl) rfl rfl rfl rfl rfl (by repeat (first | exact BuildP.nil | ((apply BuildP.many); (rfl); (rfl); (rfl); (rfl); (repeat (first | exact PutL.nil | ((apply PutL.cons); (repeat (first | exact SetL.z | apply SetL.s)))))))) rfl (fun b => ?_))))))
    ((refine Tr.step rfl ?_))
    refine Exec.append (news := [.int .i64 z.k, .int .i64 z.n, .string ⟨z.s.toArray⟩, .slice A5 z.l.length c5]) rfl rfl (tysOk.get rfl) rfl (tysOk.get rfl) rfl rfl rfl rfl (by repeat (first | exact Del.here | apply Del.there)) (Src.box (by repeat (first | exact Has.here | apply Has.there))) rfl (by intro u hu; simp at hu; rcases hu with rfl | rfl | rfl | rfl <;> rfl) (by omega) (by omega) rfl (fun A8 c8 hc8 => ?_)
    repeat (first | ((with_reducible refine Tr.step rfl ?_); (first | ((with_reducible refine Knd.move ?_); (refine Exec.stab rfl (Stab.move rfl) rfl ?_)) | ((with_reducible refine Knd.assign ?_); (refine Exec.stab rfl (Stab.assign rfl) rfl ?_)) | ((with_reducible refine Knd.binOp ?_); ((refine Exec.stab rfl (Stab.addi rfl rfl (by omega)) rfl ?_))))) | (with_reducible refine Tr.next ?_) | (with_reducible refine Tr.region ?_) | (with_reducible refine Tr.nil ?_) | (with_reducible refine Tr.in_normal ?_))
    rw [show ((encL (l.take i)).length : Int) + ((enc x).length : Int) = ((encL (l.take (i + 1))).length : Int) by rw [hen]; simp]
    repeat (fail)
    refine Tr.give (r := box _ 24 _) (by repeat (first | exact Del.here | apply Del.there)) ?_
    obtain ⟨ccs, ecs, hcs⟩ := h5v
    have ecs' : ccs = [.int .i64 z.k, .int .i64 z.n, .string ⟨z.s.toArray⟩, .slice A5 z.l.length c5] := by
      have := Value.agg.inj ecs
      simpa using (congrArg Array.toList this).symm
    subst ecs'
    refine Tr.again (i + 1, M3, (A7, c7), (A8, c8), _) ⟨by simp only; omega, hm2.trans hm3, hc7, hc8, ?_, ?_⟩ (by simp only; omega) (holds_sub (by repeat (first | exact SubFr.nil | refine SubFr.cons rfl ?_)) (by repeat (first | exact DropL.refl | apply DropL.skip)))
    · intro y hy
      rw [List.take_add_one, hx] at hy
      simp only [List.mem_append] at hy
      rcases hy with hy | hy
      · exact hchk y hy
      · simp at hy; rw [hy]; exact cx
    · have : zlist (i + 1) = zlist i ++ [z] := by rw [hz]; exact List.replicate_succ'
      simp only
      rw [this]
      exact (hel4.mono RVal.mono' hm3).append (Elems.one rfl hcs)
  · have e : i = l.length := by omega
    subst e
    rw [List.take_length] at *
    have hzl : (zlist l.length).length = l.length := by simp [zlist]
    refine Tr.publish (r := ownS 24 4 _ _ _ _) (by repeat (first | exact Del.here | apply Del.there)) (fun M3 hm3 hok3 => ?_)
    have hzs := SlOf.ofOwn hok3 hzl.symm hzc (hel4.mono RVal.mono' hm3)
    refine Tr.publish (r := ownS 5 1 _ _ _ _) (by repeat (first | exact Del.here | apply Del.there)) (fun M4 hm4 hok4 => ?_)
    have hbw := BSl.ofOwn hok4 rfl hwc
    have hzs := hzs.mono (fun M M' c x => RVal.mono' M M' c x) hm4
    have hl4 := hl2.mono (fun M M' c x => RVal.mono' M M' c x) (hm3.trans hm4)
    have hm04 := hm1.trans (hm2.trans (hm3.trans hm4))
    repeat (first | ((with_reducible refine Tr.step rfl ?_); (first | ((with_reducible refine Knd.move ?_); (refine Exec.stab rfl (Stab.move rfl) rfl ?_)) | ((with_reducible refine Knd.binOp ?_); ((refine Exec.stab rfl (Stab.int rfl rfl rfl) rfl ?_))))) | (with_reducible refine Tr.next ?_) | (with_reducible refine Tr.seq ?_) | (with_reducible refine Tr.region ?_) | (with_reducible refine Tr.nil ?_) | (with_reducible refine Tr.exit ?_) | (with_reducible refine Tr.then_exit ?_) | ((with_reducible refine Tr.in_exit ?_ ?_); (exact rfl)) | (refine Tr.cond_f rfl (by first | (with_reducible assumption) | (with_reducible rfl) | (with_reducible exact (not_not_intro rfl)) | omega) ?_))
    ((refine Tr.step rfl ?_)); refine Exec.call0 rfl (list_fn M4 A c l hl4) rfl ?_
    rintro r5 _ - ⟨h5, rfl⟩
    ((refine Tr.step rfl ?_)); refine Exec.call0 rfl (encode_fn M4 (.mk 3 0 [] l) r5 h5 (by omega) (by omega)) rfl ?_
    rintro _ M5 hm5 ⟨B5, k5, rfl, hb5⟩
    have hm05 := hm04.trans hm5
    by_cases c3 : chk (.mk 3 0 [] l) = 0
    rotate_left
    · repeat (first | ((with_reducible refine Tr.step rfl ?_); (first | ((with_reducible refine Knd.move ?_); (refine Exec.stab rfl (Stab.move rfl) rfl ?_)) | ((with_reducible refine Knd.assign ?_); (refine Exec.stab rfl (Stab.assign rfl) rfl ?_)) | ((with_reducible refine Knd.binOp ?_); ((refine Exec.stab rfl (Stab.int rfl rfl rfl) rfl ?_))) | ((with_reducible refine Knd.extract ?_); (refine Exec.stab rfl (Stab.extract rfl rfl) rfl ?_)))) | (with_reducible refine Tr.next ?_) | (with_reducible refine Tr.seq ?_) | (with_reducible refine Tr.region ?_) | (with_reducible refine Tr.nil ?_) | (with_reducible refine Tr.ret ?_) | (with_reducible refine Tr.then_ret ?_) | (refine Tr.cond_t rfl (by first | (with_reducible assumption) | (with_reducible rfl) | (with_reducible exact (not_not_intro rfl)) | omega) ?_))
      (refine Tr.done (by first | exact .inl rfl | exact .inr rfl) rfl (by repeat (first | exact RVs.nil | (apply RVs.cons; (exact RV.tmp rfl)))) (by first | exact Mem.le.refl _ | assumption) (by exact ⟨[], rfl⟩) ⟨rfl, ?_⟩)
      show Value.bool (decide (chk (.mk 3 0 [] l) = 2)) = _
      rw [decide_eq_true (chk_all hchk c3)]
    have hbw := hbw.mono hm5
    have hzs := hzs.mono (fun M M' c x => RVal.mono' M M' c x) hm5
    have hlz := list_fn M5 Z zc (zlist l.length) hzs
    rw [hzl] at hlz
    rw [show encF (.mk 3 0 [] l) = enc (.mk 3 0 [] l) by rw [encF, if_pos c3]] at *
    repeat (first | ((with_reducible refine Tr.step rfl ?_); (first | ((with_reducible refine Knd.move ?_); (refine Exec.stab rfl (Stab.move rfl) rfl ?_)) | ((with_reducible refine Knd.assign ?_); (refine Exec.stab rfl (Stab.assign rfl) rfl ?_)) | ((with_reducible refine Knd.binOp ?_); ((refine Exec.stab rfl (Stab.int rfl rfl rfl) rfl ?_))) | ((with_reducible refine Knd.extract ?_); (refine Exec.stab rfl (Stab.extract rfl rfl) rfl ?_)))) | (with_reducible refine Tr.next ?_) | (with_reducible refine Tr.seq ?_) | (with_reducible refine Tr.region ?_) | (with_reducible refine Tr.nil ?_) | (with_reducible refine Tr.skip ?_) | (refine Tr.cond_f rfl (by first | (with_reducible assumption) | (with_reducible rfl) | (with_reducible exact (not_not_intro rfl)) | omega) ?_))
    ((refine Tr.step rfl ?_)); refine Exec.call0 rfl (hlz) rfl ?_
    rintro r6 _ - ⟨h6, rfl⟩
    have hez : (enc (.mk 3 0 [] (zlist l.length))).length = 1 + (num l.length).length + 2 * l.length := by
      rw [enc3 rfl]
      show (3 :: (num (zlist l.length).length ++ encL (zlist l.length))).length = _
      rw [List.length_cons, List.length_append, encL_zlist, hzl]; omega
    have hsz := size_fn M5 (.mk 3 0 [] (zlist l.length)) r6 h6 (by rw [depth3 (v := .mk 3 0 [] (zlist l.length)) rfl]; show depthL (zlist l.length) + 1 ≤ _; rw [depthL_zlist]; omega) (by rw [hez]; omega)
    rw [chk_zlist, show sizeF (.mk 3 0 [] (zlist l.length)) = 1 + (num l.length).length + 2 * l.length by rw [sizeF, if_pos (chk_zlist _), hez]] at hsz
    ((refine Tr.step rfl ?_)); refine Exec.call0 rfl (hsz) rfl ?_
    rintro _ _ _ ⟨rfl, rfl⟩
    repeat (first | ((with_reducible refine Tr.step rfl ?_); (first | ((with_reducible refine Knd.move ?_); (refine Exec.stab rfl (Stab.move rfl) rfl ?_)) | ((with_reducible refine Knd.assign ?_); (refine Exec.stab rfl (Stab.assign rfl) rfl ?_)) | ((with_reducible refine Knd.len ?_); ((refine Exec.stab rfl (Stab.len rfl (tysOk.get rfl) rfl) rfl ?_))) | ((with_reducible refine Knd.binOp ?_); ((refine Exec.stab rfl (Stab.subi rfl rfl (by omega)) rfl ?_))) | ((with_reducible refine Knd.extract ?_); (refine Exec.stab rfl (Stab.extract rfl rfl) rfl ?_)))) | (with_reducible refine Tr.next ?_) | (with_reducible refine Tr.seq ?_) | (with_reducible refine Tr.region ?_) | (with_reducible refine Tr.nil ?_))
    have hlc : (enc (.mk 3 0 [] l)).length = 1 + (num l.length).length + (encL l).length := hlen3
    have hcap := hb5.cap
    have hnp := num_len_pos l.length
    rw [show ((enc (.mk 3 0 [] l)).length : Int) - ((encL l).length : Int) = ((1 + (num l.length).length : Nat) : Int) by omega]
    have hsub := hb5.sub (l := 1 + (num l.length).length) (k := (enc (.mk 3 0 [] l)).length) (m := k5) (by omega) (Nat.le_refl _) (by omega) (Nat.le_refl _)
    have hde : ((enc (.mk 3 0 [] l)).drop (1 + (num l.length).length)).take ((enc (.mk 3 0 [] l)).length - (1 + (num l.length).length)) = encL l := by
      rw [List.take_of_length_le (by simp), enc3 rfl]
      show (3 :: (num l.length ++ encL l)).drop _ = _
      rw [Nat.add_comm, List.drop_succ_cons, List.drop_left]
    rw [hde] at hsub
    clear hb5
    have heq : ((enc (.mk 3 0 [] l)).length : Int) = ((1 + (num l.length).length + 2 * l.length : Nat) : Int) - 2 * (l.length : Int) + ((encL l).length : Int) := by omega
    have hge : (2 : Int) ≤ ((1 + (num l.length).length : Nat) : Int) := by omega
    (((apply Tr.draw); (kernel_rfl)); (refine TrA.take 0 (by kernel_rfl) rfl (by kernel_rfl) (by first | exact fun _ _ _ h => h | exact fun _ _ _ h => nomatch h.1) (by first | exact fun _ h => h | (intro r h; cases h; done) | exact (Sub.mem (by repeat (first | exact Sub.refl | apply Sub.cons)))) rfl (by first | exact Stab.move rfl) rfl rfl ?_); (refine TrA.take 1 (by kernel_rfl) rfl (by kernel_rfl) (by first | exact fun _ _ _ h => h | exact fun _ _ _ h => nomatch h.1) (by first | exact fun _ h => h | (intro r h; cases h; done) | exact (Sub.mem (by repeat (first | exact Sub.refl | apply Sub.cons)))) rfl (by exact Stab.int rfl rfl rfl) rfl rfl ?_); (refine TrA.take 2 (by kernel_rfl) rfl (by kernel_rfl) (by first | exact fun _ _ _ h => h | exact fun _ _ _ h => nomatch h.1) (by first | exact fun _ h => h | (intro r h; cases h; done) | exact (Sub.mem (by repeat (first | exact Sub.refl | apply Sub.cons)))) rfl (by first | exact Stab.move rfl) rfl rfl ?_); ((refine TrA.takeg 3 (by kernel_rfl) rfl (by kernel_rfl) (by first | exact fun _ _ _ h => h | exact fun _ _ _ h => nomatch h.1) (by first | exact fun _ h => h | (intro r h; cases h; done) | exact (Sub.mem (by repeat (first | exact Sub.refl | apply Sub.cons)))) rfl rfl rfl (decide_eq_true (by first | (with_reducible assumption) | (with_reducible rfl) | (with_reducible exact (not_not_intro rfl)) | omega)) (by first | exact Stab.move rfl) rfl rfl ?_)); ((refine TrA.takeg 5 (by kernel_rfl) rfl (by kernel_rfl) (by first | exact fun _ _ _ h => h | exact fun _ _ _ h => nomatch h.1) (by first | exact fun _ h => h | (intro r h; cases h; done) | exact (Sub.mem (by repeat (first | exact Sub.refl | apply Sub.cons)))) rfl rfl rfl (decide_eq_true (by first | (with_reducible assumption) | (with_reducible rfl) | (with_reducible exact (not_not_intro rfl)) | omega)) (by first | exact Stab.move rfl) rfl rfl ?_)); ((refine TrA.takeg 6 (by kernel_rfl) rfl (by kernel_rfl) (by first | exact fun _ _ _ h => h | exact fun _ _ _ h => nomatch h.1) (by first | exact fun _ h => h | (intro r h; cases h; done) | exact (Sub.mem (by repeat (first | exact Sub.refl | apply Sub.cons)))) rfl rfl rfl (decide_eq_true (by first | (with_reducible assumption) | (with_reducible rfl) | (with_reducible exact (not_not_intro rfl)) | omega)) (by first | exact Stab.move rfl) rfl rfl ?_)); ((refine TrA.takeg 10 (by kernel_rfl) rfl (by kernel_rfl) (by first | exact fun _ _ _ h => h | exact fun _ _ _ h => nomatch h.1) (by first | exact fun _ h => h | (intro r h; cases h; done) | exact (Sub.mem (by repeat (first | exact Sub.refl | apply Sub.cons)))) rfl rfl rfl (decide_eq_true (by first | (with_reducible assumption) | (with_reducible rfl) | (with_reducible exact (not_not_intro rfl)) | omega)) (by first | exact Stab.move rfl) rfl rfl ?_)); ((refine TrA.takeg 4 (by kernel_rfl) rfl (by kernel_rfl) (by first | exact fun _ _ _ h => h | exact fun _ _ _ h => nomatch h.1) (by first | exact fun _ h => h | (intro r h; cases h; done) | exact (Sub.mem (by repeat (first | exact Sub.refl | apply Sub.cons)))) rfl rfl rfl (decide_eq_true (by first | (with_reducible assumption) | (with_reducible rfl) | (with_reducible exact (not_not_intro rfl)) | omega)) (by first | exact Stab.len rfl (tysOk.get rfl) rfl | exact Stab.lensL rfl (tysOk.get rfl) rfl | exact Stab.lens rfl (tysOk.get rfl) rfl) rfl rfl ?_)); ((refine TrA.takeg 7 (by kernel_rfl) rfl (by kernel_rfl) (by first | exact fun _ _ _ h => h | exact fun _ _ _ h => nomatch h.1) (by first | exact fun _ h => h | (intro r h; cases h; done) | exact (Sub.mem (by repeat (first | exact Sub.refl | apply Sub.cons)))) rfl rfl rfl (decide_eq_true (by first | (with_reducible assumption) | (with_reducible rfl) | (with_reducible exact (not_not_intro rfl)) | omega)) (by first | exact Stab.len rfl (tysOk.get rfl) rfl | exact Stab.lensL rfl (tysOk.get rfl) rfl | exact Stab.lens rfl (tysOk.get rfl) rfl) rfl rfl ?_)); ((refine TrA.takeg 8 (by kernel_rfl) rfl (by kernel_rfl) (by first | exact fun _ _ _ h => h | exact fun _ _ _ h => nomatch h.1) (by first | exact fun _ h => h | (intro r h; cases h; done) | exact (Sub.mem (by repeat (first | exact Sub.refl | apply Sub.cons)))) rfl rfl rfl (decide_eq_true (by first | (with_reducible assumption) | (with_reducible rfl) | (with_reducible exact (not_not_intro rfl)) | omega)) (by exact Stab.muli rfl rfl (by omega)) rfl rfl ?_)); ((refine TrA.takeg 9 (by kernel_rfl) rfl (by kernel_rfl) (by first | exact fun _ _ _ h => h | exact fun _ _ _ h => nomatch h.1) (by first | exact fun _ h => h | (intro r h; cases h; done) | exact (Sub.mem (by repeat (first | exact Sub.refl | apply Sub.cons)))) rfl rfl rfl (decide_eq_true (by first | (with_reducible assumption) | (with_reducible rfl) | (with_reducible exact (not_not_intro rfl)) | omega)) (by exact Stab.subi rfl rfl (by omega)) rfl rfl ?_)); ((refine TrA.takeg 11 (by kernel_rfl) rfl (by kernel_rfl) (by first | exact fun _ _ _ h => h | exact fun _ _ _ h => nomatch h.1) (by first | exact fun _ h => h | (intro r h; cases h; done) | exact (Sub.mem (by repeat (first | exact Sub.refl | apply Sub.cons)))) rfl rfl rfl (decide_eq_true (by first | (with_reducible assumption) | (with_reducible rfl) | (with_reducible exact (not_not_intro rfl)) | omega)) (by exact Stab.addi rfl rfl (by omega)) rfl rfl ?_)); ((refine TrA.takeg 12 (by kernel_rfl) rfl (by kernel_rfl) (by first | exact fun _ _ _ h => h | exact fun _ _ _ h => nomatch h.1) (by first | exact fun _ h => h | (intro r h; cases h; done) | exact (Sub.mem (by repeat (first | exact Sub.refl | apply Sub.cons)))) rfl rfl rfl (decide_eq_true (by first | (with_reducible assumption) | (with_reducible rfl) | (with_reducible exact (not_not_intro rfl)) | omega)) (by exact Stab.int rfl rfl rfl) rfl rfl ?_)); (refine TrA.take 13 (by kernel_rfl) rfl (by kernel_rfl) (by first | exact fun _ _ _ h => h | exact fun _ _ _ h => nomatch h.1) (by first | exact fun _ h => h | (intro r h; cases h; done) | exact (Sub.mem (by repeat (first | exact Sub.refl | apply Sub.cons)))) rfl (by exact Stab.pick_td rfl (by first | (with_reducible assumption) | (with_reducible rfl) | (with_reducible exact (not_not_intro rfl)) | omega) rfl) rfl rfl ?_); (refine TrA.take 14 (by kernel_rfl) rfl (by kernel_rfl) (by first | exact fun _ _ _ h => h | exact fun _ _ _ h => nomatch h.1) (by first | exact fun _ h => h | (intro r h; cases h; done) | exact (Sub.mem (by repeat (first | exact Sub.refl | apply Sub.cons)))) rfl (by first | exact Stab.move rfl) rfl rfl ?_); ((refine TrA.takeg 15 (by kernel_rfl) rfl (by kernel_rfl) (by first | exact fun _ _ _ h => h | exact fun _ _ _ h => nomatch h.1) (by first | exact fun _ h => h | (intro r h; cases h; done) | exact (Sub.mem (by repeat (first | exact Sub.refl | apply Sub.cons)))) rfl rfl rfl (decide_eq_true (by first | (with_reducible assumption) | (with_reducible rfl) | (with_reducible exact (not_not_intro rfl)) | omega)) (by first | exact Stab.move rfl) rfl rfl ?_)); ((refine TrA.takeg 16 (by kernel_rfl) rfl (by kernel_rfl) (by first | exact fun _ _ _ h => h | exact fun _ _ _ h => nomatch h.1) (by first | exact fun _ h => h | (intro r h; cases h; done) | exact (Sub.mem (by repeat (first | exact Sub.refl | apply Sub.cons)))) rfl rfl rfl (decide_eq_true (by first | (with_reducible assumption) | (with_reducible rfl) | (with_reducible exact (not_not_intro rfl)) | omega)) (by exact Stab.int rfl rfl rfl) rfl rfl ?_)); (refine TrA.take 17 (by kernel_rfl) rfl (by kernel_rfl) (by first | exact fun _ _ _ h => h | exact fun _ _ _ h => nomatch h.1) (by first | exact fun _ h => h | (intro r h; cases h; done) | exact (Sub.mem (by repeat (first | exact Sub.refl | apply Sub.cons)))) rfl (by exact Stab.pick_td rfl (by first | (with_reducible assumption) | (with_reducible rfl) | (with_reducible exact (not_not_intro rfl)) | omega) rfl) rfl rfl ?_); (refine TrA.take 18 (by kernel_rfl) rfl (by kernel_rfl) (by first | exact fun _ _ _ h => h | exact fun _ _ _ h => nomatch h.1) (by first | exact fun _ h => h | (intro r h; cases h; done) | exact (Sub.mem (by repeat (first | exact Sub.refl | apply Sub.cons)))) rfl (by first | exact Stab.move rfl) rfl rfl ?_); ((refine TrA.takeg 19 (by kernel_rfl) rfl (by kernel_rfl) (by first | exact fun _ _ _ h => h | exact fun _ _ _ h => nomatch h.1) (by first | exact fun _ h => h | (intro r h; cases h; done) | exact (Sub.mem (by repeat (first | exact Sub.refl | apply Sub.cons)))) rfl rfl rfl (decide_eq_true (by first | (with_reducible assumption) | (with_reducible rfl) | (with_reducible exact (not_not_intro rfl)) | omega)) (by first | exact Stab.move rfl) rfl rfl ?_)); ((refine TrA.takeg 20 (by kernel_rfl) rfl (by kernel_rfl) (by first | exact fun _ _ _ h => h | exact fun _ _ _ h => nomatch h.1) (by first | exact fun _ h => h | (intro r h; cases h; done) | exact (Sub.mem (by repeat (first | exact Sub.refl | apply Sub.cons)))) rfl rfl rfl (decide_eq_true (by first | (with_reducible assumption) | (with_reducible rfl) | (with_reducible exact (not_not_intro rfl)) | omega)) (by first | exact Stab.move rfl) rfl rfl ?_)); ((refine TrA.takeg 23 (by kernel_rfl) rfl (by kernel_rfl) (by first | exact fun _ _ _ h => h | exact fun _ _ _ h => nomatch h.1) (by first | exact fun _ h => h | (intro r h; cases h; done) | exact (Sub.mem (by repeat (first | exact Sub.refl | apply Sub.cons)))) rfl rfl rfl (decide_eq_true (by first | (with_reducible assumption) | (with_reducible rfl) | (with_reducible exact (not_not_intro rfl)) | omega)) (by first | exact Stab.move rfl) rfl rfl ?_)); ((refine TrA.takeg 21 (by kernel_rfl) rfl (by kernel_rfl) (by first | exact fun _ _ _ h => h | exact fun _ _ _ h => nomatch h.1) (by first | exact fun _ h => h | (intro r h; cases h; done) | exact (Sub.mem (by repeat (first | exact Sub.refl | apply Sub.cons)))) rfl rfl rfl (decide_eq_true (by first | (with_reducible assumption) | (with_reducible rfl) | (with_reducible exact (not_not_intro rfl)) | omega)) (by exact Stab.slice_l rfl rfl (tysOk.get rfl) rfl (tysOk.get rfl) rfl (by omega) (by omega)) rfl rfl ?_)); ((refine TrA.takeg 24 (by kernel_rfl) rfl (by kernel_rfl) (by first | exact fun _ _ _ h => h | exact fun _ _ _ h => nomatch h.1) (by first | exact fun _ h => h | (intro r h; cases h; done) | exact (Sub.mem (by repeat (first | exact Sub.refl | apply Sub.cons)))) rfl rfl rfl (decide_eq_true (by first | (with_reducible assumption) | (with_reducible rfl) | (with_reducible exact (not_not_intro rfl)) | omega)) (by exact Stab.bstrB rfl (tysOk.get rfl) (tysOk.get rfl) rfl rfl (tysOk.get rfl) rfl (by assumption)) rfl rfl ?_)); ((refine TrA.takeg 22 (by kernel_rfl) rfl (by kernel_rfl) (by first | exact fun _ _ _ h => h | exact fun _ _ _ h => nomatch h.1) (by first | exact fun _ h => h | (intro r h; cases h; done) | exact (Sub.mem (by repeat (first | exact Sub.refl | apply Sub.cons)))) rfl rfl rfl (decide_eq_true (by first | (with_reducible assumption) | (with_reducible rfl) | (with_reducible exact (not_not_intro rfl)) | omega)) (by exact Stab.bstrB rfl (tysOk.get rfl) (tysOk.get rfl) rfl rfl (tysOk.get rfl) rfl (by assumption)) rfl rfl ?_)); ((refine TrA.takeg 25 (by kernel_rfl) rfl (by kernel_rfl) (by first | exact fun _ _ _ h => h | exact fun _ _ _ h => nomatch h.1) (by first | exact fun _ h => h | (intro r h; cases h; done) | exact (Sub.mem (by repeat (first | exact Sub.refl | apply Sub.cons)))) rfl rfl rfl (decide_eq_true (by first | (with_reducible assumption) | (with_reducible rfl) | (with_reducible exact (not_not_intro rfl)) | omega)) (by exact Stab.streq rfl rfl) rfl rfl ?_)); (refine TrA.take 26 (by kernel_rfl) rfl (by kernel_rfl) (by first | exact fun _ _ _ h => h | exact fun _ _ _ h => nomatch h.1) (by first | exact fun _ h => h | (intro r h; cases h; done) | exact (Sub.mem (by repeat (first | exact Sub.refl | apply Sub.cons)))) rfl (by exact Stab.pick_td rfl (by first | (with_reducible assumption) | (with_reducible rfl) | (with_reducible exact (not_not_intro rfl)) | omega) rfl) rfl rfl ?_); (refine TrA.take 27 (by kernel_rfl) rfl (by kernel_rfl) (by first | exact fun _ _ _ h => h | exact fun _ _ _ h => nomatch h.1) (by first | exact fun _ h => h | (intro r h; cases h; done) | exact (Sub.mem (by repeat (first | exact Sub.refl | apply Sub.cons)))) rfl (by first | exact Stab.assign rfl) rfl rfl ?_); (refine TrA.done (by kernel_rfl) ?_))
    repeat (first | (with_reducible refine Tr.next ?_) | (with_reducible refine Tr.ret ?_))
    (refine Tr.done (by first | exact .inl rfl | exact .inr rfl) rfl (by repeat (first | exact RVs.nil | (apply RVs.cons; (exact RV.tmp rfl)))) (by first | exact Mem.le.refl _ | assumption) (by exact ⟨[], rfl⟩) ⟨rfl, ?_⟩)
    show Value.bool (decide (({ data := (encL l).toArray } : ByteArray).data.toList = ({ data := (encL l).toArray } : ByteArray).data.toList)) = _
    rw [strEq, decide_eq_true rfl]
end Go.Proofs.Ytgcjpicnibeemaa
