/-
  The digest: numbers of bits, halves, rotations.
  Conditions: none.
-/
import Derived.Test.YtoaepelmhmddmaaDoorTys
import Derived.Test.YtoaepelmhmddmaaDoorBfW32
import Derived.Test.YtoaepelmhmddmaaDoorBfArr
import Derived.Test.YtoaepelmhmddmaaDoorBfUnd
import Derived.Test.YtoaepelmhmddmaaDoorBfStr
import Derived.Test.YtoaepelmhmddmaaDoorBfRange
namespace Go.Proofs.YtoaepelmhmddmaaDoor
open Go Bf
attribute [local irreducible] Tr Exec Stab HasTy Go.Addr.add IntKind.wrap
def bl (u : Nat) : Nat := if u = 0 then 0 else Nat.log2 u + 1
theorem bl_shift {u k : Nat} (h : 2 ^ k ≤ u) : bl u = bl (u / 2 ^ k) + k := by
  have hp : 0 < 2 ^ k := Nat.two_pow_pos k
  have h0 : u ≠ 0 := by omega
  have h1 : u / 2 ^ k ≠ 0 := by
    have := Nat.div_pos h hp
    omega
  simp only [bl, if_neg h0, if_neg h1]
  have key : ∀ m, m ≤ Nat.log2 (u / 2 ^ k) ↔ m + k ≤ Nat.log2 u := fun m => by
    rw [Nat.le_log2 h1, Nat.le_log2 h0, Nat.le_div_iff_mul_le hp, Nat.pow_add]
  have : k ≤ Nat.log2 u := (Nat.le_log2 h0).2 h
  have k1 := (key (Nat.log2 (u / 2 ^ k))).1 (Nat.le_refl _)
  have k2 := (key (Nat.log2 u - k)).2 (by omega)
  omega
theorem bl_le {u : Nat} (h : u < 2 ^ 64) : bl u ≤ 64 := by
  unfold bl
  split
  · omega
  · rename_i h0
    have := (Nat.log2_lt h0).2 h
    omega
def len8 : List UInt8 := (List.range 256).map fun x => UInt8.ofNat (bl x)
theorem len8_get {x : Nat} (h : x < 256) : len8[x]? = some (UInt8.ofNat (bl x)) := by simp [len8, h]
set_option maxRecDepth 100000 in
set_option maxHeartbeats 1000000 in
theorem len64_fn (M : Mem) (u : Nat) (hu : u < 2 ^ 64) : Fn0 Tryd.prog 49 [.int .u64 (u : Int)] M (fun r M' => r = .int .i64 (bl u : Int) ∧ M = M') := by
  refine Fn.intro Tryd.func49 rfl rfl Tryd.ntmps49 rfl fun E F => ?_
  repeat (first | ((with_reducible refine Tr.step rfl ?_); (first | ((with_reducible refine Knd.move ?_); (refine Exec.stab rfl (Stab.move rfl) rfl ?_)) | ((with_reducible refine Knd.assign ?_); (refine Exec.stab rfl (Stab.assign rfl) rfl ?_)) | ((with_reducible refine Knd.binOp ?_); ((refine Exec.stab rfl (Stab.int rfl rfl rfl) rfl ?_))))) | (with_reducible refine Tr.next ?_) | (with_reducible refine Tr.seq ?_) | (with_reducible refine Tr.region ?_) | (with_reducible refine Tr.nil ?_))
  refine Tr.cut (α := Nat × Nat) (fun x => ⟨25, [(2, .int .i64 x.2), (0, .int .u64 x.1)], [], M, [] ++ F⟩) (fun x => x.1 < 2 ^ 32 ∧ x.2 ≤ 32 ∧ bl u = bl x.1 + x.2) ?_ (fun x hx => ?_)
  · by_cases h : 2 ^ 32 ≤ u
    · have e : (u : Int) / 4294967296 = ((u / 2 ^ 32 : Nat) : Int) := by omega
      repeat (first | ((with_reducible refine Tr.step rfl ?_); (first | ((with_reducible refine Knd.move ?_); (refine Exec.stab rfl (Stab.move rfl) rfl ?_)) | ((with_reducible refine Knd.assign ?_); (refine Exec.stab rfl (Stab.assign rfl) rfl ?_)) | ((with_reducible refine Knd.binOp ?_); ((refine Exec.stab rfl (Stab.shrc 32 (p := 4294967296) rfl rfl rfl rfl) rfl ?_))))) | (with_reducible refine Tr.next ?_) | (with_reducible refine Tr.seq ?_) | (with_reducible refine Tr.region ?_) | (with_reducible refine Tr.nil ?_) | (refine Tr.cond_t rfl (by first | (with_reducible assumption) | (with_reducible rfl) | (with_reducible exact (not_not_intro rfl)) | omega) ?_))
      rw [e]
      refine Tr.land (u / 2 ^ 32, 32) ⟨by simp only; omega, by simp, bl_shift h⟩ (holds_sub (by repeat (first | exact SubFr.nil | refine SubFr.cons rfl ?_)) (by repeat (first | exact DropL.refl | apply DropL.skip)))
    · repeat (first | (with_reducible refine Tr.skip ?_) | (refine Tr.cond_f rfl (by first | (with_reducible assumption) | (with_reducible rfl) | (with_reducible exact (not_not_intro rfl)) | omega) ?_))
      refine Tr.land (u, 0) ⟨by simp only; omega, by simp, rfl⟩ (holds_sub (by repeat (first | exact SubFr.nil | refine SubFr.cons rfl ?_)) (by repeat (first | exact DropL.refl | apply DropL.skip)))
  obtain ⟨u2, n2⟩ := x
  obtain ⟨g1, g2, g3⟩ := hx
  simp only at g1 g2 g3
  dsimp only
  repeat (first | ((with_reducible refine Tr.step rfl ?_); (first | ((with_reducible refine Knd.move ?_); (refine Exec.stab rfl (Stab.move rfl) rfl ?_)) | ((with_reducible refine Knd.binOp ?_); ((refine Exec.stab rfl (Stab.int rfl rfl rfl) rfl ?_))))) | (with_reducible refine Tr.next ?_) | (with_reducible refine Tr.seq ?_) | (with_reducible refine Tr.region ?_) | (with_reducible refine Tr.nil ?_))
  refine Tr.cut (α := Nat × Nat) (fun x => ⟨25, [(2, .int .i64 x.2), (0, .int .u64 x.1)], [], M, [] ++ F⟩) (fun x => x.1 < 2 ^ 16 ∧ x.2 ≤ 48 ∧ bl u = bl x.1 + x.2) ?_ (fun x hx => ?_)
  · by_cases h : 2 ^ 16 ≤ u2
    · have e : (u2 : Int) / 65536 = ((u2 / 2 ^ 16 : Nat) : Int) := by omega
      repeat (first | ((with_reducible refine Tr.step rfl ?_); (first | ((with_reducible refine Knd.move ?_); (refine Exec.stab rfl (Stab.move rfl) rfl ?_)) | ((with_reducible refine Knd.assign ?_); (refine Exec.stab rfl (Stab.assign rfl) rfl ?_)) | ((with_reducible refine Knd.binOp ?_); (first | (refine Exec.stab rfl (Stab.shrc 16 (p := 65536) rfl rfl rfl rfl) rfl ?_) | (refine Exec.stab rfl (Stab.addi rfl rfl (by omega)) rfl ?_))))) | (with_reducible refine Tr.next ?_) | (with_reducible refine Tr.seq ?_) | (with_reducible refine Tr.region ?_) | (with_reducible refine Tr.nil ?_) | (refine Tr.cond_t rfl (by first | (with_reducible assumption) | (with_reducible rfl) | (with_reducible exact (not_not_intro rfl)) | omega) ?_))
      rw [e]
      refine Tr.land (u2 / 2 ^ 16, n2 + 16) ⟨by simp only; omega, by simp only; omega, by simp only; rw [g3, bl_shift h]; omega⟩ (holds_sub (by repeat (first | exact SubFr.nil | refine SubFr.cons rfl ?_)) (by repeat (first | exact DropL.refl | apply DropL.skip)))
    · repeat (first | (with_reducible refine Tr.skip ?_) | (refine Tr.cond_f rfl (by first | (with_reducible assumption) | (with_reducible rfl) | (with_reducible exact (not_not_intro rfl)) | omega) ?_))
      refine Tr.land (u2, n2) ⟨by simp only; omega, by simp only; omega, g3⟩ (holds_sub (by repeat (first | exact SubFr.nil | refine SubFr.cons rfl ?_)) (by repeat (first | exact DropL.refl | apply DropL.skip)))
  obtain ⟨u3, n3⟩ := x
  obtain ⟨k1, k2, k3⟩ := hx
  simp only at k1 k2 k3
  dsimp only
  repeat (first | ((with_reducible refine Tr.step rfl ?_); (first | ((with_reducible refine Knd.move ?_); (refine Exec.stab rfl (Stab.move rfl) rfl ?_)) | ((with_reducible refine Knd.binOp ?_); ((refine Exec.stab rfl (Stab.int rfl rfl rfl) rfl ?_))))) | (with_reducible refine Tr.next ?_) | (with_reducible refine Tr.seq ?_) | (with_reducible refine Tr.region ?_) | (with_reducible refine Tr.nil ?_))
  refine Tr.cut (α := Nat × Nat) (fun x => ⟨25, [(2, .int .i64 x.2), (0, .int .u64 x.1)], [], M, [] ++ F⟩) (fun x => x.1 < 2 ^ 8 ∧ x.2 ≤ 56 ∧ bl u = bl x.1 + x.2) ?_ (fun x hx => ?_)
  · by_cases h : 2 ^ 8 ≤ u3
    · have e : (u3 : Int) / 256 = ((u3 / 2 ^ 8 : Nat) : Int) := by omega
      repeat (first | ((with_reducible refine Tr.step rfl ?_); (first | ((with_reducible refine Knd.move ?_); (refine Exec.stab rfl (Stab.move rfl) rfl ?_)) | ((with_reducible refine Knd.assign ?_); (refine Exec.stab rfl (Stab.assign rfl) rfl ?_)) | ((with_reducible refine Knd.binOp ?_); (first | (refine Exec.stab rfl (Stab.shrc 8 (p := 256) rfl rfl rfl rfl) rfl ?_) | (refine Exec.stab rfl (Stab.addi rfl rfl (by omega)) rfl ?_))))) | (with_reducible refine Tr.next ?_) | (with_reducible refine Tr.seq ?_) | (with_reducible refine Tr.region ?_) | (with_reducible refine Tr.nil ?_) | (refine Tr.cond_t rfl (by first | (with_reducible assumption) | (with_reducible rfl) | (with_reducible exact (not_not_intro rfl)) | omega) ?_))
      rw [e]
      refine Tr.land (u3 / 2 ^ 8, n3 + 8) ⟨by simp only; omega, by simp only; omega, by simp only; rw [k3, bl_shift h]; omega⟩ (holds_sub (by repeat (first | exact SubFr.nil | refine SubFr.cons rfl ?_)) (by repeat (first | exact DropL.refl | apply DropL.skip)))
    · repeat (first | (with_reducible refine Tr.skip ?_) | (refine Tr.cond_f rfl (by first | (with_reducible assumption) | (with_reducible rfl) | (with_reducible exact (not_not_intro rfl)) | omega) ?_))
      refine Tr.land (u3, n3) ⟨by simp only; omega, by simp only; omega, k3⟩ (holds_sub (by repeat (first | exact SubFr.nil | refine SubFr.cons rfl ?_)) (by repeat (first | exact DropL.refl | apply DropL.skip)))
  obtain ⟨u4, n4⟩ := x
  obtain ⟨m1, m2, m3⟩ := hx
  simp only at m1 m2 m3
  dsimp only
  repeat (first | ((with_reducible refine Tr.step rfl ?_); (first | ((with_reducible refine Knd.move ?_); (refine Exec.stab rfl (Stab.move rfl) rfl ?_)) | ((with_reducible refine Knd.convert ?_); ((refine Exec.stab rfl (Stab.convu8 rfl (tysOk.get rfl) (tysOk.get rfl) rfl rfl (by omega)) rfl ?_))))) | (with_reducible refine Tr.next ?_) | (with_reducible refine Tr.seq ?_) | (with_reducible refine Tr.region ?_))
  refine Tr.step rfl ?_
  refine Exec.stab rfl (Stab.indexs (c := UInt8.ofNat (bl u4)) rfl rfl (tysOk.get rfl) rfl (by omega) ?_) rfl ?_
  · refine Eq.trans (congrArg (fun l : List UInt8 => l[((u4 : Int)).toNat]?) (show _ = len8 from ?_)) (len8_get m1)
    kernel_rfl
  have hb8 : bl u4 ≤ 8 := by
    have : ∀ x : Fin 256, bl x.val ≤ 8 := by decide
    exact this ⟨u4, m1⟩
  have e : ((UInt8.ofNat (bl u4)).toNat : Int) = (bl u4 : Int) := by
    rw [UInt8.toNat_ofNat', Nat.mod_eq_of_lt (by omega)]
  rw [e]
  repeat (first | ((with_reducible refine Tr.step rfl ?_); (first | ((with_reducible refine Knd.assign ?_); (refine Exec.stab rfl (Stab.assign rfl) rfl ?_)) | ((with_reducible refine Knd.binOp ?_); ((refine Exec.stab rfl (Stab.addi rfl rfl (by omega)) rfl ?_))) | ((with_reducible refine Knd.convert ?_); ((refine Exec.stab rfl (Stab.convi rfl (tysOk.get rfl) (tysOk.get rfl) rfl rfl (by omega)) rfl ?_))))) | (with_reducible refine Tr.next ?_) | (with_reducible refine Tr.nil ?_) | (with_reducible refine Tr.ret ?_))
  (refine Tr.done (by first | exact .inl rfl | exact .inr rfl) rfl (by repeat (first | exact RVs.nil | (apply RVs.cons; (exact RV.tmp rfl)))) (by first | exact Mem.le.refl _ | assumption) (by exact ⟨[], rfl⟩) ⟨rfl, ?_⟩)
  exact ⟨by show Value.int .i64 ((n4 : Int) + (bl u4 : Int)) = _; rw [m3]; congr 1; omega, rfl⟩

set_option maxHeartbeats 1000000 in
theorem len_fn (M : Mem) (u : Nat) (hu : u < 2 ^ 64) : Fn0 Tryd.prog 46 [.int .u64 (u : Int)] M (fun r M' => r = .int .i64 (bl u : Int) ∧ M = M') := by
  refine Fn.intro Tryd.func46 rfl rfl Tryd.ntmps46 rfl fun E F => ?_
  repeat (first | ((with_reducible refine Tr.step rfl ?_); (first | ((with_reducible refine Knd.move ?_); (refine Exec.stab rfl (Stab.move rfl) rfl ?_)) | ((with_reducible refine Knd.assign ?_); (refine Exec.stab rfl (Stab.assign rfl) rfl ?_)))) | (with_reducible refine Tr.next ?_) | (with_reducible refine Tr.seq ?_) | (with_reducible refine Tr.region ?_) | (with_reducible refine Tr.nil ?_) | (with_reducible refine Tr.skip ?_) | (refine Tr.cond_bf rfl (by first | (with_reducible rfl) | (with_reducible assumption) | (with_reducible exact Bool.not_true) | (with_reducible exact Bool.not_false)) ?_))
  ((refine Tr.step rfl ?_)); refine Exec.call0 rfl (len64_fn M u hu) rfl ?_
  rintro _ _ _ ⟨rfl, rfl⟩
  repeat (first | ((with_reducible refine Tr.step rfl ?_); (((with_reducible refine Knd.assign ?_); (refine Exec.stab rfl (Stab.assign rfl) rfl ?_)))) | (with_reducible refine Tr.next ?_) | (with_reducible refine Tr.nil ?_) | (with_reducible refine Tr.ret ?_))
  (refine Tr.done (by first | exact .inl rfl | exact .inr rfl) rfl (by repeat (first | exact RVs.nil | (apply RVs.cons; (exact RV.tmp rfl)))) (by first | exact Mem.le.refl _ | assumption) (by exact ⟨[], rfl⟩) ⟨rfl, ?_⟩)
  exact ⟨rfl, rfl⟩
/-- the greatest power of 2 that is less than n -/
def hlf (n : Nat) : Nat := 2 ^ Nat.log2 (n - 1)
theorem hlf_lt {n : Nat} (h : 2 ≤ n) : hlf n < n := by
  have := Nat.log2_self_le (n := n - 1) (by omega)
  unfold hlf; omega
theorem hlf_pos (n : Nat) : 0 < hlf n := Nat.two_pow_pos _
theorem hlf_ge {n : Nat} (h : 2 ≤ n) : n ≤ 2 * hlf n := by
  have := Nat.lt_log2_self (n := n - 1)
  unfold hlf
  rw [Nat.pow_succ] at this
  omega
theorem hlf_eq {n k : Nat} (h : 2 ≤ n) (j : Nat) (hk : k = 2 ^ j) (h1 : k < n) (h2 : n ≤ 2 * k) : k = hlf n := by
  unfold hlf
  have : Nat.log2 (n - 1) = j := by
    rw [Nat.log2_eq_iff (by omega)]
    rw [Nat.pow_succ]
    omega
  rw [this, hk]
theorem bl_hlf {n : Nat} (h : 2 ≤ n) : bl (n - 1) = Nat.log2 (n - 1) + 1 := by unfold bl; rw [if_neg (by omega)]
set_option maxHeartbeats 1000000 in
theorem half_fn (M : Mem) (n : Nat) (h : 2 ≤ n) (h2 : n ≤ 4611686018427387904) : Fn0 Tryd.prog 32 [.int .i64 (n : Int)] M (fun r M' => r = .int .i64 (hlf n : Int) ∧ M = M') := by
  have hl := hlf_lt h
  have hn : (n : Int) - 1 = ((n - 1 : Nat) : Int) := by omega
  have hb : Nat.log2 (n - 1) < 63 := by rw [Nat.log2_lt (by omega)]; omega
  refine Fn.intro Tryd.func32 rfl rfl Tryd.ntmps32 rfl fun E F => ?_
  repeat (first | ((with_reducible refine Tr.step rfl ?_); (first | ((with_reducible refine Knd.move ?_); (refine Exec.stab rfl (Stab.move rfl) rfl ?_)) | ((with_reducible refine Knd.assign ?_); (refine Exec.stab rfl (Stab.assign rfl) rfl ?_)) | ((with_reducible refine Knd.binOp ?_); ((refine Exec.stab rfl (Stab.subi rfl rfl (by omega)) rfl ?_))) | ((with_reducible refine Knd.convert ?_); ((refine Exec.stab rfl (Stab.convu64 rfl (tysOk.get rfl) (tysOk.get rfl) rfl rfl (by omega)) rfl ?_))))) | (with_reducible refine Tr.next ?_) | (with_reducible refine Tr.seq ?_) | (with_reducible refine Tr.region ?_) | (with_reducible refine Tr.nil ?_))
  rw [hn]
  ((refine Tr.step rfl ?_)); refine Exec.call0 rfl (len_fn M (n - 1) (by omega)) rfl ?_
  rintro _ _ _ ⟨rfl, rfl⟩
  rw [bl_hlf h]
  repeat (((with_reducible refine Tr.step rfl ?_); (((with_reducible refine Knd.binOp ?_); ((refine Exec.stab rfl (Stab.subi rfl rfl (by omega)) rfl ?_))))))
  refine Tr.step rfl ?_
  refine Exec.stab rfl (Stab.shl rfl rfl (by omega)) rfl ?_
  have e : IntKind.i64.wrap (1 * 2 ^ min (((Nat.log2 (n - 1) + 1 : Nat) : Int) - 1).toNat IntKind.i64.bits) = (hlf n : Int) := by
    have e1 : min (((Nat.log2 (n - 1) + 1 : Nat) : Int) - 1).toNat IntKind.i64.bits = Nat.log2 (n - 1) := by show min _ 64 = _; omega
    rw [e1, Int.one_mul]
    have e2 : (2 : Int) ^ Nat.log2 (n - 1) = (hlf n : Int) := by unfold hlf; rw [Int.natCast_pow]; rfl
    rw [e2]
    exact IntWalk.i64_in _ (by omega)
  rw [e]
  repeat (first | ((with_reducible refine Tr.step rfl ?_); (((with_reducible refine Knd.assign ?_); (refine Exec.stab rfl (Stab.assign rfl) rfl ?_)))) | (with_reducible refine Tr.next ?_) | (with_reducible refine Tr.nil ?_) | (with_reducible refine Tr.ret ?_))
  (refine Tr.done (by first | exact .inl rfl | exact .inr rfl) rfl (by repeat (first | exact RVs.nil | (apply RVs.cons; (exact RV.tmp rfl)))) (by first | exact Mem.le.refl _ | assumption) (by exact ⟨[], rfl⟩) ⟨rfl, ?_⟩)
  exact ⟨rfl, rfl⟩
set_option maxHeartbeats 1000000 in
theorem rhalf_fn (M : Mem) (n : Nat) (h : 2 ≤ n) (h2 : n ≤ 4611686018427387904) : Fn0 Tryd.prog 34 [.int .i64 (n : Int)] M (fun r M' => r = .int .i64 (hlf n : Int) ∧ M = M') := by
  refine Fn.intro Tryd.func34 rfl rfl Tryd.ntmps34 rfl fun E F => ?_
  repeat (first | ((with_reducible refine Tr.step rfl ?_); (((with_reducible refine Knd.assign ?_); (refine Exec.stab rfl (Stab.assign rfl) rfl ?_)))) | (with_reducible refine Tr.next ?_) | (with_reducible refine Tr.seq ?_) | (with_reducible refine Tr.region ?_) | (with_reducible refine Tr.nil ?_) | (with_reducible refine Tr.block ?_))
  refine Tr.loop (α := Nat) (fun k => ⟨11, [(3, .int .i64 k), (2, .int .i64 0), (0, .int .i64 n)], [], M, [] ++ F⟩) (fun k => (∃ j, k = 2 ^ j) ∧ k < n ∧ 0 < k) (fun k => n - k) 1 ⟨⟨0, rfl⟩, by omega, by omega⟩ (holds_sub (by repeat (first | exact SubFr.nil | refine SubFr.cons rfl ?_)) (by repeat (first | exact DropL.refl | apply DropL.skip))) (fun k hk => ?_)
  obtain ⟨⟨j, hj⟩, hk, hk0⟩ := hk
  by_cases hlt : 2 * k < n
  · repeat (first | ((with_reducible refine Tr.step rfl ?_); (first | ((with_reducible refine Knd.move ?_); (refine Exec.stab rfl (Stab.move rfl) rfl ?_)) | ((with_reducible refine Knd.assign ?_); (refine Exec.stab rfl (Stab.assign rfl) rfl ?_)) | ((with_reducible refine Knd.binOp ?_); (first | (refine Exec.stab rfl (Stab.muli rfl rfl (by omega)) rfl ?_) | (refine Exec.stab rfl (Stab.int rfl rfl rfl) rfl ?_))))) | (with_reducible refine Tr.next ?_) | (with_reducible refine Tr.seq ?_) | (with_reducible refine Tr.region ?_) | (with_reducible refine Tr.nil ?_) | (with_reducible refine Tr.skip ?_) | (with_reducible refine Tr.block ?_) | (with_reducible refine Tr.in_normal ?_) | (refine Tr.cond_t rfl (by first | (with_reducible assumption) | (with_reducible rfl) | (with_reducible exact (not_not_intro rfl)) | omega) ?_))
    rw [show 2 * (k : Int) = ((2 * k : Nat) : Int) by omega]
    refine Tr.again (2 * k) ⟨⟨j + 1, by rw [hj, Nat.pow_succ]; omega⟩, hlt, by omega⟩ (by omega) (holds_sub (by repeat (first | exact SubFr.nil | refine SubFr.cons rfl ?_)) (by repeat (first | exact DropL.refl | apply DropL.skip)))
  · have e := hlf_eq h j hj hk (by omega)
    repeat (first | ((with_reducible refine Tr.step rfl ?_); (first | ((with_reducible refine Knd.move ?_); (refine Exec.stab rfl (Stab.move rfl) rfl ?_)) | ((with_reducible refine Knd.assign ?_); (refine Exec.stab rfl (Stab.assign rfl) rfl ?_)) | ((with_reducible refine Knd.binOp ?_); (first | (refine Exec.stab rfl (Stab.muli rfl rfl (by omega)) rfl ?_) | (refine Exec.stab rfl (Stab.int rfl rfl rfl) rfl ?_))))) | (with_reducible refine Tr.next ?_) | (with_reducible refine Tr.seq ?_) | (with_reducible refine Tr.region ?_) | (with_reducible refine Tr.nil ?_) | (with_reducible refine Tr.exit ?_) | (with_reducible refine Tr.ret ?_) | (with_reducible refine Tr.then_exit ?_) | ((with_reducible refine Tr.in_exit ?_ ?_); (exact rfl)) | (refine Tr.cond_f rfl (by first | (with_reducible assumption) | (with_reducible rfl) | (with_reducible exact (not_not_intro rfl)) | omega) ?_))
    (refine Tr.done (by first | exact .inl rfl | exact .inr rfl) rfl (by repeat (first | exact RVs.nil | (apply RVs.cons; (exact RV.tmp rfl)))) (by first | exact Mem.le.refl _ | assumption) (by exact ⟨[], rfl⟩) ⟨rfl, ?_⟩)
    exact ⟨by rw [e]; rfl, rfl⟩
/-- rotated to the right -/
def rorw (x : UInt32) (n : Nat) : UInt32 := (x >>> UInt32.ofNat n) ||| (x <<< UInt32.ofNat (32 - n))
set_option maxHeartbeats 1000000 in
theorem rotl_fn (M : Mem) (x : UInt32) (n : Nat) (h0 : 0 < n) (h : n < 32) : Fn0 Tryd.prog 47 [.int .u32 (x.toNat : Int), .int .i64 (-(n : Int))] M (fun r M' => r = .int .u32 ((rorw x n).toNat : Int) ∧ M = M') := by
  have hw : IntKind.u64.wrap (-(n : Int)) = 18446744073709551616 - (n : Int) := by rw [IntKind.wrap_u64]; omega
  refine Fn.intro Tryd.func47 rfl rfl Tryd.ntmps47 rfl fun E F => ?_
  repeat (first | ((with_reducible refine Tr.step rfl ?_); (first | ((with_reducible refine Knd.move ?_); (refine Exec.stab rfl (Stab.move rfl) rfl ?_)) | ((with_reducible refine Knd.assign ?_); (refine Exec.stab rfl (Stab.assign rfl) rfl ?_)) | ((with_reducible refine Knd.binOp ?_); ((refine Exec.stab rfl (Stab.and64 5 rfl rfl rfl rfl (by omega) (p := 32) rfl) rfl ?_))) | ((with_reducible refine Knd.convert ?_); ((refine Exec.stab rfl (Stab.conv rfl (tysOk.get rfl) (tysOk.get rfl) rfl rfl) rfl ?_))))) | (with_reducible refine Tr.next ?_) | (with_reducible refine Tr.seq ?_) | (with_reducible refine Tr.region ?_) | (with_reducible refine Tr.nil ?_))
  rw [hw]
  repeat (fail)
  refine Tr.step rfl ?_
  refine Exec.stab rfl (Stab.shlw (32 - n) rfl rfl (by omega) (by omega)) rfl ?_
  repeat (((with_reducible refine Tr.step rfl ?_); (first | ((with_reducible refine Knd.move ?_); (refine Exec.stab rfl (Stab.move rfl) rfl ?_)) | ((with_reducible refine Knd.binOp ?_); ((refine Exec.stab rfl (Stab.subu64 rfl rfl (by omega)) rfl ?_))))))
  refine Tr.step rfl ?_
  refine Exec.stab rfl (Stab.shrw n rfl rfl (by omega) (by omega)) rfl ?_
  repeat (first | ((with_reducible refine Tr.step rfl ?_); (first | ((with_reducible refine Knd.assign ?_); (refine Exec.stab rfl (Stab.assign rfl) rfl ?_)) | ((with_reducible refine Knd.binOp ?_); ((refine Exec.stab rfl (Stab.orw rfl rfl) rfl ?_))))) | (with_reducible refine Tr.next ?_) | (with_reducible refine Tr.nil ?_) | (with_reducible refine Tr.ret ?_))
  (refine Tr.done (by first | exact .inl rfl | exact .inr rfl) rfl (by repeat (first | exact RVs.nil | (apply RVs.cons; (exact RV.tmp rfl)))) (by first | exact Mem.le.refl _ | assumption) (by exact ⟨[], rfl⟩) ⟨rfl, ?_⟩)
  exact ⟨by rw [rorw, UInt32.or_comm]; rfl, rfl⟩
set_option maxHeartbeats 1000000 in
theorem ror_fn (M : Mem) (x : UInt32) (n : Nat) (h0 : 0 < n) (h : n < 32) : Fn0 Tryd.prog 41 [.int .u32 (x.toNat : Int), .int .i64 (n : Int)] M (fun r M' => r = .int .u32 ((rorw x n).toNat : Int) ∧ M = M') := by
  refine Fn.intro Tryd.func41 rfl rfl Tryd.ntmps41 rfl fun E F => ?_
  repeat (first | ((with_reducible refine Tr.step rfl ?_); (first | ((with_reducible refine Knd.move ?_); (refine Exec.stab rfl (Stab.move rfl) rfl ?_)) | ((with_reducible refine Knd.assign ?_); (refine Exec.stab rfl (Stab.assign rfl) rfl ?_)) | ((with_reducible refine Knd.unOp ?_); ((refine Exec.stab rfl (Stab.neg rfl (by omega)) rfl ?_))))) | (with_reducible refine Tr.next ?_) | (with_reducible refine Tr.seq ?_) | (with_reducible refine Tr.region ?_) | (with_reducible refine Tr.nil ?_))
  ((refine Tr.step rfl ?_)); refine Exec.call0 rfl (rotl_fn M x n h0 h) rfl ?_
  rintro _ _ _ ⟨rfl, rfl⟩
  repeat (first | ((with_reducible refine Tr.step rfl ?_); (((with_reducible refine Knd.assign ?_); (refine Exec.stab rfl (Stab.assign rfl) rfl ?_)))) | (with_reducible refine Tr.next ?_) | (with_reducible refine Tr.nil ?_) | (with_reducible refine Tr.ret ?_))
  (refine Tr.done (by first | exact .inl rfl | exact .inr rfl) rfl (by repeat (first | exact RVs.nil | (apply RVs.cons; (exact RV.tmp rfl)))) (by first | exact Mem.le.refl _ | assumption) (by exact ⟨[], rfl⟩) ⟨rfl, ?_⟩)
  exact ⟨rfl, rfl⟩
set_option maxHeartbeats 1000000 in
theorem rror_fn (M : Mem) (x : UInt32) (n : Nat) (h0 : 0 < n) (h : n < 32) : Fn0 Tryd.prog 43 [.int .u32 (x.toNat : Int), .int .i64 (n : Int)] M (fun r M' => r = .int .u32 ((rorw x n).toNat : Int) ∧ M = M') := by
  refine Fn.intro Tryd.func43 rfl rfl Tryd.ntmps43 rfl fun E F => ?_
  repeat (first | ((with_reducible refine Tr.step rfl ?_); (((with_reducible refine Knd.assign ?_); (refine Exec.stab rfl (Stab.assign rfl) rfl ?_)))) | (with_reducible refine Tr.next ?_) | (with_reducible refine Tr.seq ?_) | (with_reducible refine Tr.region ?_) | (with_reducible refine Tr.nil ?_))
  (((apply Tr.draw); (kernel_rfl)); (refine TrA.take 0 (by kernel_rfl) rfl (by kernel_rfl) (by first | exact fun _ _ _ h => h | exact fun _ _ _ h => nomatch h.1) (by first | exact fun _ h => h | (intro r h; cases h; done) | exact (Sub.mem (by repeat (first | exact Sub.refl | apply Sub.cons)))) rfl (by first | exact Stab.move rfl) rfl rfl ?_); (refine TrA.take 1 (by kernel_rfl) rfl (by kernel_rfl) (by first | exact fun _ _ _ h => h | exact fun _ _ _ h => nomatch h.1) (by first | exact fun _ h => h | (intro r h; cases h; done) | exact (Sub.mem (by repeat (first | exact Sub.refl | apply Sub.cons)))) rfl (by first | exact Stab.move rfl) rfl rfl ?_); ((refine TrA.take 2 (by kernel_rfl) rfl (by kernel_rfl) (by first | exact fun _ _ _ h => h | exact fun _ _ _ h => nomatch h.1) (by first | exact fun _ h => h | (intro r h; cases h; done) | exact (Sub.mem (by repeat (first | exact Sub.refl | apply Sub.cons)))) rfl (Stab.shrw n rfl rfl rfl (by omega)) rfl rfl ?_)); (refine TrA.take 3 (by kernel_rfl) rfl (by kernel_rfl) (by first | exact fun _ _ _ h => h | exact fun _ _ _ h => nomatch h.1) (by first | exact fun _ h => h | (intro r h; cases h; done) | exact (Sub.mem (by repeat (first | exact Sub.refl | apply Sub.cons)))) rfl (by first | exact Stab.move rfl) rfl rfl ?_); (refine TrA.take 4 (by kernel_rfl) rfl (by kernel_rfl) (by first | exact fun _ _ _ h => h | exact fun _ _ _ h => nomatch h.1) (by first | exact fun _ h => h | (intro r h; cases h; done) | exact (Sub.mem (by repeat (first | exact Sub.refl | apply Sub.cons)))) rfl (by first | exact Stab.move rfl) rfl rfl ?_); (refine TrA.take 5 (by kernel_rfl) rfl (by kernel_rfl) (by first | exact fun _ _ _ h => h | exact fun _ _ _ h => nomatch h.1) (by first | exact fun _ h => h | (intro r h; cases h; done) | exact (Sub.mem (by repeat (first | exact Sub.refl | apply Sub.cons)))) rfl (by exact Stab.subi rfl rfl (by omega)) rfl rfl ?_); ((refine TrA.take 6 (by kernel_rfl) rfl (by kernel_rfl) (by first | exact fun _ _ _ h => h | exact fun _ _ _ h => nomatch h.1) (by first | exact fun _ h => h | (intro r h; cases h; done) | exact (Sub.mem (by repeat (first | exact Sub.refl | apply Sub.cons)))) rfl (Stab.shlw (32 - n) rfl rfl (by omega) (by omega)) rfl rfl ?_)); (refine TrA.take 7 (by kernel_rfl) rfl (by kernel_rfl) (by first | exact fun _ _ _ h => h | exact fun _ _ _ h => nomatch h.1) (by first | exact fun _ h => h | (intro r h; cases h; done) | exact (Sub.mem (by repeat (first | exact Sub.refl | apply Sub.cons)))) rfl (by exact Stab.orw rfl rfl) rfl rfl ?_); (refine TrA.take 8 (by kernel_rfl) rfl (by kernel_rfl) (by first | exact fun _ _ _ h => h | exact fun _ _ _ h => nomatch h.1) (by first | exact fun _ h => h | (intro r h; cases h; done) | exact (Sub.mem (by repeat (first | exact Sub.refl | apply Sub.cons)))) rfl (by first | exact Stab.assign rfl) rfl rfl ?_); (refine TrA.done (by kernel_rfl) ?_))
  repeat (first | (with_reducible refine Tr.next ?_) | (with_reducible refine Tr.ret ?_))
  (refine Tr.done (by first | exact .inl rfl | exact .inr rfl) rfl (by repeat (first | exact RVs.nil | (apply RVs.cons; (exact RV.tmp rfl)))) (by first | exact Mem.le.refl _ | assumption) (by exact ⟨[], rfl⟩) ⟨rfl, ?_⟩)
  exact ⟨rfl, rfl⟩
end Go.Proofs.YtoaepelmhmddmaaDoor
