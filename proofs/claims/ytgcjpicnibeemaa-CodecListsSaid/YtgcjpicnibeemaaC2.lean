/-
  The codec: numerals; the contracts of Len64, digits, unsigned and numeral, and of the reference's.
  Conditions: none.
-/
import Derived.Test.YtgcjpicnibeemaaC1
namespace Go.Proofs.Ytgcjpicnibeemaa
open Go Bf
attribute [local irreducible] Tr Exec Stab HasTy Go.Addr.add IntKind.wrap
/-- the numeral of a number -/
def num (u : Nat) : List UInt8 := if h : u < 128 then [UInt8.ofNat u] else UInt8.ofNat (u % 128 + 128) :: num (u / 128)
termination_by u
decreasing_by omega
theorem num_small {u : Nat} (h : u < 128) : num u = [UInt8.ofNat u] := by rw [num]; simp [h]
theorem num_big {u : Nat} (h : 128 ≤ u) : num u = UInt8.ofNat (u % 128 + 128) :: num (u / 128) := by rw [num]; simp [show ¬ u < 128 by omega]
theorem bV (u : Nat) (h : u < 256) : [Value.int .u8 (u : Int)] = byteV [UInt8.ofNat u] := by
  simp [byteV, UInt8.toNat_ofNat', Nat.mod_eq_of_lt h]
/-- how many bits a number has -/
def bl (u : Nat) : Nat := if u = 0 then 0 else Nat.log2 u + 1
theorem bl_shift {u k : Nat} (h : 2 ^ k ≤ u) : bl u = bl (u / 2 ^ k) + k := by
  have hp : 0 < 2 ^ k := Nat.two_pow_pos k
  have h0 : u ≠ 0 := by omega
  have h1 : u / 2 ^ k ≠ 0 := by
    have := Nat.div_pos h hp
    omega
  simp only [bl, if_neg h0, if_neg h1]
  have key : ∀ m, m ≤ Nat.log2 (u / 2 ^ k) ↔ m + k ≤ Nat.log2 u := fun m => by
    rw [Nat.le_log2 h1, Nat.le_log2 h0, Nat.le_div_iff_mul_le hp, Nat.pow_add]
  have : k ≤ Nat.log2 u := (Nat.le_log2 h0).2 h
  have k1 := (key (Nat.log2 (u / 2 ^ k))).1 (Nat.le_refl _)
  have k2 := (key (Nat.log2 u - k)).2 (by omega)
  omega
theorem num_len_pos (u : Nat) : 1 ≤ (num u).length := by rw [num]; split <;> simp
theorem num_len (u : Nat) : (num u).length = max 1 ((bl u + 6) / 7) := by
  induction u using Nat.strongRecOn with
  | _ u ih =>
    by_cases h : u < 128
    · rw [num_small h]
      have : ∀ u : Fin 128, (1 : Nat) = max 1 ((bl u.val + 6) / 7) := by decide
      exact this ⟨u, h⟩
    · have h7 := bl_shift (u := u) (k := 7) (by omega)
      rw [num_big (by omega), List.length_cons, ih (u / 128) (by omega)]
      have e : u / 2 ^ 7 = u / 128 := rfl
      rw [e] at h7
      have hpos : u / 128 ≠ 0 := by omega
      have : 1 ≤ bl (u / 128) := by simp [bl, hpos]
      omega
theorem bl_le {u : Nat} (h : u < 2 ^ 64) : bl u ≤ 64 := by
  unfold bl
  split
  · omega
  · rename_i h0
    have := (Nat.log2_lt h0).2 h
    omega
theorem num_len_le {u : Nat} (h : u < 2 ^ 64) : (num u).length ≤ 10 := by
  have := bl_le h
  rw [num_len]; omega
/-- the unsigned form of an integer -/
def zz (n : Int) : Nat := if 0 ≤ n then (2 * n).toNat else (- 2 * n - 1).toNat
theorem zz_lt {n : Int} (h : -9223372036854775808 ≤ n ∧ n ≤ 9223372036854775807) : zz n < 2 ^ 64 := by
  unfold zz; split <;> omega

set_option maxHeartbeats 1000000 in
theorem runsigned_fn (M : Mem) (n : Int) (hn : -9223372036854775808 ≤ n ∧ n ≤ 9223372036854775807) : Fn0 Try.prog 52 [.int .i64 n] M (fun r M' => r = .int .u64 (zz n : Int) ∧ M = M') := by
  refine Fn.intro Try.func52 rfl rfl Try.ntmps52 rfl fun E F => ?_
  by_cases h : 0 ≤ n
  · repeat (first | ((with_reducible refine Tr.step rfl ?_); (first | ((with_reducible refine Knd.move ?_); (refine Exec.stab rfl (Stab.move rfl) rfl ?_)) | ((with_reducible refine Knd.assign ?_); (refine Exec.stab rfl (Stab.assign rfl) rfl ?_)) | ((with_reducible refine Knd.binOp ?_); (first | (refine Exec.stab rfl (Stab.mulu64 rfl rfl (by omega)) rfl ?_) | (refine Exec.stab rfl (Stab.int rfl rfl rfl) rfl ?_))) | ((with_reducible refine Knd.convert ?_); ((refine Exec.stab rfl (Stab.convu64 rfl (tysOk.get rfl) (tysOk.get rfl) rfl rfl (by omega)) rfl ?_))))) | (with_reducible refine Tr.next ?_) | (with_reducible refine Tr.seq ?_) | (with_reducible refine Tr.region ?_) | (with_reducible refine Tr.nil ?_) | (with_reducible refine Tr.ret ?_) | (with_reducible refine Tr.then_ret ?_) | (refine Tr.cond_t rfl (by first | (with_reducible assumption) | omega) ?_))
    (refine Tr.done (by first | exact .inl rfl | exact .inr rfl) rfl (by repeat (first | exact RVs.nil | (apply RVs.cons; (exact RV.tmp rfl)))) (by first | exact Mem.le.refl _ | assumption) (by exact ⟨[], rfl⟩) ⟨rfl, ?_⟩)
    exact ⟨by show Value.int .u64 (2 * n) = _; congr 1; unfold zz; rw [if_pos h]; omega, rfl⟩
  · repeat (first | ((with_reducible refine Tr.step rfl ?_); (first | ((with_reducible refine Knd.move ?_); (refine Exec.stab rfl (Stab.move rfl) rfl ?_)) | ((with_reducible refine Knd.assign ?_); (refine Exec.stab rfl (Stab.assign rfl) rfl ?_)) | ((with_reducible refine Knd.binOp ?_); (first | (refine Exec.stab rfl (Stab.addu64 rfl rfl (by omega)) rfl ?_) | (refine Exec.stab rfl (Stab.mulu64 rfl rfl (by omega)) rfl ?_) | (refine Exec.stab rfl (Stab.addi rfl rfl (by omega)) rfl ?_) | (refine Exec.stab rfl (Stab.int rfl rfl rfl) rfl ?_))) | ((with_reducible refine Knd.unOp ?_); (first | (refine Exec.stab rfl (Stab.notd rfl) rfl ?_) | (refine Exec.stab rfl (Stab.not rfl) rfl ?_) | (refine Exec.stab rfl (Stab.neg rfl (by omega)) rfl ?_))) | ((with_reducible refine Knd.convert ?_); ((refine Exec.stab rfl (Stab.convu64 rfl (tysOk.get rfl) (tysOk.get rfl) rfl rfl (by omega)) rfl ?_))))) | (with_reducible refine Tr.next ?_) | (with_reducible refine Tr.seq ?_) | (with_reducible refine Tr.region ?_) | (with_reducible refine Tr.nil ?_) | (with_reducible refine Tr.skip ?_) | (with_reducible refine Tr.ret ?_) | (refine Tr.cond_f rfl (by first | (with_reducible assumption) | omega) ?_))
    (refine Tr.done (by first | exact .inl rfl | exact .inr rfl) rfl (by repeat (first | exact RVs.nil | (apply RVs.cons; (exact RV.tmp rfl)))) (by first | exact Mem.le.refl _ | assumption) (by exact ⟨[], rfl⟩) ⟨rfl, ?_⟩)
    exact ⟨by show Value.int .u64 (2 * -(n + 1) + 1) = _; congr 1; unfold zz; rw [if_neg h]; omega, rfl⟩
set_option maxHeartbeats 1000000 in
theorem unsigned_fn (M : Mem) (n : Int) (hn : -9223372036854775808 ≤ n ∧ n ≤ 9223372036854775807) : Fn0 Try.prog 39 [.int .i64 n] M (fun r M' => r = .int .u64 (zz n : Int) ∧ M = M') := by
  refine Fn.intro Try.func39 rfl rfl Try.ntmps39 rfl fun E F => ?_
  by_cases h : 0 ≤ n
  · repeat (first | ((with_reducible refine Tr.step rfl ?_); (first | ((with_reducible refine Knd.move ?_); (refine Exec.stab rfl (Stab.move rfl) rfl ?_)) | ((with_reducible refine Knd.assign ?_); (refine Exec.stab rfl (Stab.assign rfl) rfl ?_)) | ((with_reducible refine Knd.binOp ?_); (first | (refine Exec.stab rfl (Stab.shlc64 1 (p := 2) rfl rfl rfl rfl (by omega)) rfl ?_) | (refine Exec.stab rfl (Stab.shrc 63 (p := 9223372036854775808) rfl rfl rfl rfl) rfl ?_) | (refine Exec.stab rfl (Stab.int rfl rfl rfl) rfl ?_))) | ((with_reducible refine Knd.convert ?_); ((refine Exec.stab rfl (Stab.convu64 rfl (tysOk.get rfl) (tysOk.get rfl) rfl rfl (by omega)) rfl ?_))))) | (with_reducible refine Tr.next ?_) | (with_reducible refine Tr.seq ?_) | (with_reducible refine Tr.region ?_) | (with_reducible refine Tr.nil ?_) | (with_reducible refine Tr.ret ?_))
    (refine Tr.done (by first | exact .inl rfl | exact .inr rfl) rfl (by repeat (first | exact RVs.nil | (apply RVs.cons; (exact RV.tmp rfl)))) (by first | exact Mem.le.refl _ | assumption) (by exact ⟨[], rfl⟩) ⟨rfl, ?_⟩)
    refine ⟨?_, rfl⟩
    show Value.int .u64 (Go.bits .xor .u64 (n * 2) (n / 9223372036854775808)) = _
    rw [show n / 9223372036854775808 = 0 by omega, bits_xor0u (by omega)]
    congr 1
    unfold zz
    rw [if_pos h]
    omega
  · repeat (first | ((with_reducible refine Tr.step rfl ?_); (first | ((with_reducible refine Knd.move ?_); (refine Exec.stab rfl (Stab.move rfl) rfl ?_)) | ((with_reducible refine Knd.assign ?_); (refine Exec.stab rfl (Stab.assign rfl) rfl ?_)) | ((with_reducible refine Knd.convert ?_); ((refine Exec.stab rfl (Stab.conv rfl (tysOk.get rfl) (tysOk.get rfl) rfl rfl) rfl ?_))))) | (with_reducible refine Tr.next ?_) | (with_reducible refine Tr.seq ?_) | (with_reducible refine Tr.region ?_) | (with_reducible refine Tr.nil ?_))
    have e1 : IntKind.u64.wrap n = n + 18446744073709551616 := by rw [IntKind.wrap_u64]; omega
    have e2 : IntKind.u64.wrap ((n + 18446744073709551616) * 2 ^ min (Int.toNat 1) IntKind.u64.bits) = 2 * n + 18446744073709551616 := by
      have : min (Int.toNat 1) IntKind.u64.bits = 1 := rfl
      rw [this, IntKind.wrap_u64]
      omega
    have e3 : n / 9223372036854775808 = -1 := by omega
    have e4 : IntKind.u64.wrap (-1) = 18446744073709551615 := by rw [IntKind.wrap_u64]; omega
    rw [e1]
    refine Tr.step rfl ?_
    refine Exec.stab rfl (Stab.shl rfl rfl (by omega)) rfl ?_
    rw [e2]
    repeat (first | ((with_reducible refine Tr.step rfl ?_); (first | ((with_reducible refine Knd.move ?_); (refine Exec.stab rfl (Stab.move rfl) rfl ?_)) | ((with_reducible refine Knd.assign ?_); (refine Exec.stab rfl (Stab.assign rfl) rfl ?_)) | ((with_reducible refine Knd.binOp ?_); (first | (refine Exec.stab rfl (Stab.shrc 63 (p := 9223372036854775808) rfl rfl rfl rfl) rfl ?_) | (refine Exec.stab rfl (Stab.int rfl rfl rfl) rfl ?_))) | ((with_reducible refine Knd.convert ?_); ((refine Exec.stab rfl (Stab.conv rfl (tysOk.get rfl) (tysOk.get rfl) rfl rfl) rfl ?_))))) | (with_reducible refine Tr.next ?_) | (with_reducible refine Tr.nil ?_) | (with_reducible refine Tr.ret ?_))
    (refine Tr.done (by first | exact .inl rfl | exact .inr rfl) rfl (by repeat (first | exact RVs.nil | (apply RVs.cons; (exact RV.tmp rfl)))) (by first | exact Mem.le.refl _ | assumption) (by exact ⟨[], rfl⟩) ⟨rfl, ?_⟩)
    refine ⟨?_, rfl⟩
    show Value.int .u64 (Go.bits .xor .u64 (2 * n + 18446744073709551616) (IntKind.u64.wrap (n / 9223372036854775808))) = _
    rw [e3, e4, bits_xor_ones (by omega)]
    congr 1
    unfold zz
    rw [if_neg h]
    omega
def len8 : List UInt8 := (List.range 256).map fun x => UInt8.ofNat (bl x)
theorem len8_get {x : Nat} (h : x < 256) : len8[x]? = some (UInt8.ofNat (bl x)) := by simp [len8, h]
set_option maxRecDepth 100000 in
set_option maxHeartbeats 1000000 in
theorem len64_fn (M : Mem) (u : Nat) (hu : u < 2 ^ 64) : Fn0 Try.prog 57 [.int .u64 (u : Int)] M (fun r M' => r = .int .i64 (bl u : Int) ∧ M = M') := by
  refine Fn.intro Try.func57 rfl rfl Try.ntmps57 rfl fun E F => ?_
  repeat (first | ((with_reducible refine Tr.step rfl ?_); (first | ((with_reducible refine Knd.move ?_); (refine Exec.stab rfl (Stab.move rfl) rfl ?_)) | ((with_reducible refine Knd.assign ?_); (refine Exec.stab rfl (Stab.assign rfl) rfl ?_)) | ((with_reducible refine Knd.binOp ?_); ((refine Exec.stab rfl (Stab.int rfl rfl rfl) rfl ?_))))) | (with_reducible refine Tr.next ?_) | (with_reducible refine Tr.seq ?_) | (with_reducible refine Tr.region ?_) | (with_reducible refine Tr.nil ?_))
  refine Tr.cut (α := Nat × Nat) (fun x => ⟨25, [(2, .int .i64 x.2), (0, .int .u64 x.1)], [], M, [] ++ F⟩) (fun x => x.1 < 2 ^ 32 ∧ x.2 ≤ 32 ∧ bl u = bl x.1 + x.2) ?_ (fun x hx => ?_)
  · by_cases h : 2 ^ 32 ≤ u
    · have e : (u : Int) / 4294967296 = ((u / 2 ^ 32 : Nat) : Int) := by omega
      repeat (first | ((with_reducible refine Tr.step rfl ?_); (first | ((with_reducible refine Knd.move ?_); (refine Exec.stab rfl (Stab.move rfl) rfl ?_)) | ((with_reducible refine Knd.assign ?_); (refine Exec.stab rfl (Stab.assign rfl) rfl ?_)) | ((with_reducible refine Knd.binOp ?_); ((refine Exec.stab rfl (Stab.shrc 32 (p := 4294967296) rfl rfl rfl rfl) rfl ?_))))) | (with_reducible refine Tr.next ?_) | (with_reducible refine Tr.seq ?_) | (with_reducible refine Tr.region ?_) | (with_reducible refine Tr.nil ?_) | (refine Tr.cond_t rfl (by first | (with_reducible assumption) | omega) ?_))
      rw [e]
      refine Tr.land (u / 2 ^ 32, 32) ⟨by simp only; omega, by simp, bl_shift h⟩ (holds_sub (by repeat (first | exact SubFr.nil | refine SubFr.cons rfl ?_)) (by repeat (first | exact DropL.refl | apply DropL.skip)))
    · repeat (first | (with_reducible refine Tr.skip ?_) | (refine Tr.cond_f rfl (by first | (with_reducible assumption) | omega) ?_))
      refine Tr.land (u, 0) ⟨by simp only; omega, by simp, rfl⟩ (holds_sub (by repeat (first | exact SubFr.nil | refine SubFr.cons rfl ?_)) (by repeat (first | exact DropL.refl | apply DropL.skip)))
  obtain ⟨u2, n2⟩ := x
  obtain ⟨g1, g2, g3⟩ := hx
  simp only at g1 g2 g3
  dsimp only
  repeat (first | ((with_reducible refine Tr.step rfl ?_); (first | ((with_reducible refine Knd.move ?_); (refine Exec.stab rfl (Stab.move rfl) rfl ?_)) | ((with_reducible refine Knd.binOp ?_); ((refine Exec.stab rfl (Stab.int rfl rfl rfl) rfl ?_))))) | (with_reducible refine Tr.next ?_) | (with_reducible refine Tr.seq ?_) | (with_reducible refine Tr.region ?_) | (with_reducible refine Tr.nil ?_))
  refine Tr.cut (α := Nat × Nat) (fun x => ⟨25, [(2, .int .i64 x.2), (0, .int .u64 x.1)], [], M, [] ++ F⟩) (fun x => x.1 < 2 ^ 16 ∧ x.2 ≤ 48 ∧ bl u = bl x.1 + x.2) ?_ (fun x hx => ?_)
  · by_cases h : 2 ^ 16 ≤ u2
    · have e : (u2 : Int) / 65536 = ((u2 / 2 ^ 16 : Nat) : Int) := by omega
      repeat (first | ((with_reducible refine Tr.step rfl ?_); (first | ((with_reducible refine Knd.move ?_); (refine Exec.stab rfl (Stab.move rfl) rfl ?_)) | ((with_reducible refine Knd.assign ?_); (refine Exec.stab rfl (Stab.assign rfl) rfl ?_)) | ((with_reducible refine Knd.binOp ?_); (first | (refine Exec.stab rfl (Stab.shrc 16 (p := 65536) rfl rfl rfl rfl) rfl ?_) | (refine Exec.stab rfl (Stab.addi rfl rfl (by omega)) rfl ?_))))) | (with_reducible refine Tr.next ?_) | (with_reducible refine Tr.seq ?_) | (with_reducible refine Tr.region ?_) | (with_reducible refine Tr.nil ?_) | (refine Tr.cond_t rfl (by first | (with_reducible assumption) | omega) ?_))
      rw [e]
      refine Tr.land (u2 / 2 ^ 16, n2 + 16) ⟨by simp only; omega, by simp only; omega, by simp only; rw [g3, bl_shift h]; omega⟩ (holds_sub (by repeat (first | exact SubFr.nil | refine SubFr.cons rfl ?_)) (by repeat (first | exact DropL.refl | apply DropL.skip)))
    · repeat (first | (with_reducible refine Tr.skip ?_) | (refine Tr.cond_f rfl (by first | (with_reducible assumption) | omega) ?_))
      refine Tr.land (u2, n2) ⟨by simp only; omega, by simp only; omega, g3⟩ (holds_sub (by repeat (first | exact SubFr.nil | refine SubFr.cons rfl ?_)) (by repeat (first | exact DropL.refl | apply DropL.skip)))
  obtain ⟨u3, n3⟩ := x
  obtain ⟨k1, k2, k3⟩ := hx
  simp only at k1 k2 k3
  dsimp only
  repeat (first | ((with_reducible refine Tr.step rfl ?_); (first | ((with_reducible refine Knd.move ?_); (refine Exec.stab rfl (Stab.move rfl) rfl ?_)) | ((with_reducible refine Knd.binOp ?_); ((refine Exec.stab rfl (Stab.int rfl rfl rfl) rfl ?_))))) | (with_reducible refine Tr.next ?_) | (with_reducible refine Tr.seq ?_) | (with_reducible refine Tr.region ?_) | (with_reducible refine Tr.nil ?_))
  refine Tr.cut (α := Nat × Nat) (fun x => ⟨25, [(2, .int .i64 x.2), (0, .int .u64 x.1)], [], M, [] ++ F⟩) (fun x => x.1 < 2 ^ 8 ∧ x.2 ≤ 56 ∧ bl u = bl x.1 + x.2) ?_ (fun x hx => ?_)
  · by_cases h : 2 ^ 8 ≤ u3
    · have e : (u3 : Int) / 256 = ((u3 / 2 ^ 8 : Nat) : Int) := by omega
      repeat (first | ((with_reducible refine Tr.step rfl ?_); (first | ((with_reducible refine Knd.move ?_); (refine Exec.stab rfl (Stab.move rfl) rfl ?_)) | ((with_reducible refine Knd.assign ?_); (refine Exec.stab rfl (Stab.assign rfl) rfl ?_)) | ((with_reducible refine Knd.binOp ?_); (first | (refine Exec.stab rfl (Stab.shrc 8 (p := 256) rfl rfl rfl rfl) rfl ?_) | (refine Exec.stab rfl (Stab.addi rfl rfl (by omega)) rfl ?_))))) | (with_reducible refine Tr.next ?_) | (with_reducible refine Tr.seq ?_) | (with_reducible refine Tr.region ?_) | (with_reducible refine Tr.nil ?_) | (refine Tr.cond_t rfl (by first | (with_reducible assumption) | omega) ?_))
      rw [e]
      refine Tr.land (u3 / 2 ^ 8, n3 + 8) ⟨by simp only; omega, by simp only; omega, by simp only; rw [k3, bl_shift h]; omega⟩ (holds_sub (by repeat (first | exact SubFr.nil | refine SubFr.cons rfl ?_)) (by repeat (first | exact DropL.refl | apply DropL.skip)))
    · repeat (first | (with_reducible refine Tr.skip ?_) | (refine Tr.cond_f rfl (by first | (with_reducible assumption) | omega) ?_))
      refine Tr.land (u3, n3) ⟨by simp only; omega, by simp only; omega, k3⟩ (holds_sub (by repeat (first | exact SubFr.nil | refine SubFr.cons rfl ?_)) (by repeat (first | exact DropL.refl | apply DropL.skip)))
  obtain ⟨u4, n4⟩ := x
  obtain ⟨m1, m2, m3⟩ := hx
  simp only at m1 m2 m3
  dsimp only
  repeat (first | ((with_reducible refine Tr.step rfl ?_); (first | ((with_reducible refine Knd.move ?_); (refine Exec.stab rfl (Stab.move rfl) rfl ?_)) | ((with_reducible refine Knd.convert ?_); ((refine Exec.stab rfl (Stab.convu8 rfl (tysOk.get rfl) (tysOk.get rfl) rfl rfl (by omega)) rfl ?_))))) | (with_reducible refine Tr.next ?_) | (with_reducible refine Tr.seq ?_) | (with_reducible refine Tr.region ?_))
  refine Tr.step rfl ?_
  refine Exec.stab rfl (Stab.indexs (c := UInt8.ofNat (bl u4)) rfl rfl (tysOk.get rfl) rfl (by omega) ?_) rfl ?_
  · refine Eq.trans (congrArg (fun l : List UInt8 => l[((u4 : Int)).toNat]?) (show _ = len8 from ?_)) (len8_get m1)
    kernel_rfl
  have hb8 : bl u4 ≤ 8 := by
    have : ∀ x : Fin 256, bl x.val ≤ 8 := by decide
    exact this ⟨u4, m1⟩
  have e : ((UInt8.ofNat (bl u4)).toNat : Int) = (bl u4 : Int) := by
    rw [UInt8.toNat_ofNat', Nat.mod_eq_of_lt (by omega)]
  rw [e]
  repeat (first | ((with_reducible refine Tr.step rfl ?_); (first | ((with_reducible refine Knd.assign ?_); (refine Exec.stab rfl (Stab.assign rfl) rfl ?_)) | ((with_reducible refine Knd.binOp ?_); ((refine Exec.stab rfl (Stab.addi rfl rfl (by omega)) rfl ?_))) | ((with_reducible refine Knd.convert ?_); ((refine Exec.stab rfl (Stab.convi rfl (tysOk.get rfl) (tysOk.get rfl) rfl rfl (by omega)) rfl ?_))))) | (with_reducible refine Tr.next ?_) | (with_reducible refine Tr.nil ?_) | (with_reducible refine Tr.ret ?_))
  (refine Tr.done (by first | exact .inl rfl | exact .inr rfl) rfl (by repeat (first | exact RVs.nil | (apply RVs.cons; (exact RV.tmp rfl)))) (by first | exact Mem.le.refl _ | assumption) (by exact ⟨[], rfl⟩) ⟨rfl, ?_⟩)
  exact ⟨by show Value.int .i64 ((n4 : Int) + (bl u4 : Int)) = _; rw [m3]; congr 1; omega, rfl⟩
set_option maxHeartbeats 1000000 in
theorem digits_fn (M : Mem) (u : Nat) (hu : u < 2 ^ 64) : Fn0 Try.prog 38 [.int .u64 (u : Int)] M (fun r M' => r = .int .i64 ((num u).length : Int) ∧ M = M') := by
  have hb := bl_le hu
  refine Fn.intro Try.func38 rfl rfl Try.ntmps38 rfl fun E F => ?_
  repeat (first | ((with_reducible refine Tr.step rfl ?_); (first | ((with_reducible refine Knd.move ?_); (refine Exec.stab rfl (Stab.move rfl) rfl ?_)) | ((with_reducible refine Knd.assign ?_); (refine Exec.stab rfl (Stab.assign rfl) rfl ?_)))) | (with_reducible refine Tr.next ?_) | (with_reducible refine Tr.seq ?_) | (with_reducible refine Tr.region ?_) | (with_reducible refine Tr.nil ?_))
  ((refine Tr.step rfl ?_)); refine Exec.call0 rfl (len64_fn M u hu) rfl ?_
  rintro _ _ _ ⟨rfl, rfl⟩
  repeat (first | ((with_reducible refine Tr.step rfl ?_); (first | ((with_reducible refine Knd.assign ?_); (refine Exec.stab rfl (Stab.assign rfl) rfl ?_)) | ((with_reducible refine Knd.max ?_); (refine Exec.stab rfl (Stab.max2 rfl rfl) rfl ?_)) | ((with_reducible refine Knd.binOp ?_); (first | (refine Exec.stab rfl (Stab.addi rfl rfl (by omega)) rfl ?_) | (refine Exec.stab rfl (Stab.quoi rfl rfl (by omega) (by omega) (by omega)) rfl ?_))))) | (with_reducible refine Tr.next ?_) | (with_reducible refine Tr.nil ?_) | (with_reducible refine Tr.ret ?_))
  (refine Tr.done (by first | exact .inl rfl | exact .inr rfl) rfl (by repeat (first | exact RVs.nil | (apply RVs.cons; (exact RV.tmp rfl)))) (by first | exact Mem.le.refl _ | assumption) (by exact ⟨[], rfl⟩) ⟨rfl, ?_⟩)
  exact ⟨by show Value.int .i64 (max 1 (((bl u : Int) + 6) / 7)) = _; rw [num_len]; congr 1; omega, rfl⟩
theorem zz_nat (m : Nat) : zz (m : Int) = 2 * m := by unfold zz; rw [if_pos (by omega)]; omega

/-- a slice of bytes that may grow, as a result -/
def OwnB (bs : List UInt8) (r : Value) (A' : List Res) : Prop := ∃ A c, r = .slice A bs.length c ∧ c ≤ 9223372036854775807 ∧ A' = [ownS 5 1 A bs.length c (byteV bs)]
set_option maxHeartbeats 1000000 in
theorem numeral_fn (M : Mem) (A : Option Addr) (c : Nat) (bs : List UInt8) (u : Nat) (hu : u < 2 ^ 64) (hc : c ≤ 9223372036854775807) (hl : bs.length ≤ 1000000000000) :
    Bf.Fn Try.prog 41 [.slice A bs.length c, .int .u64 (u : Int)] M [ownS 5 1 A bs.length c (byteV bs)] (fun r M' A' => M = M' ∧ OwnB (bs ++ num u) r A') := by
  refine Fn.intro Try.func41 rfl rfl Try.ntmps41 rfl fun E F => ?_
  repeat (first | ((with_reducible refine Tr.step rfl ?_); (((with_reducible refine Knd.assign ?_); (refine Exec.stab rfl (Stab.assign rfl) rfl ?_)))) | (with_reducible refine Tr.next ?_) | (with_reducible refine Tr.seq ?_) | (with_reducible refine Tr.region ?_) | (with_reducible refine Tr.nil ?_) | (with_reducible refine Tr.block ?_))
  refine Tr.loop (α := Nat × List UInt8 × Option Addr × Nat) (fun x => ⟨21, [(4, .slice none 0 0), (0, .slice x.2.2.1 x.2.1.length x.2.2.2), (1, .int .u64 x.1)], [], M, ownS 5 1 x.2.2.1 x.2.1.length x.2.2.2 (byteV x.2.1) :: ([] ++ F)⟩)
    (fun x => x.1 < 2 ^ 64 ∧ x.2.2.2 ≤ 9223372036854775807 ∧ x.2.1 ++ num x.1 = bs ++ num u) (fun x => x.1) (u, bs, A, c) ⟨hu, hc, rfl⟩ (holds_sub (by repeat (first | exact SubFr.nil | refine SubFr.cons rfl ?_)) (by repeat (first | exact DropL.refl | apply DropL.skip))) (fun x hi => ?_)
  obtain ⟨v, cs, B, k⟩ := x
  obtain ⟨h1, h2, h3⟩ := hi
  simp only at h1 h2 h3
  dsimp only
  have hlen : cs.length + (num v).length = bs.length + (num u).length := by
    have := congrArg List.length h3
    simpa using this
  have hnu := num_len_le hu
  by_cases h : 128 ≤ v
  · have hr : ((v : Int) % 128 + 128) = ((v % 128 + 128 : Nat) : Int) := by omega
    have hq : ((v : Int) / 128) = ((v / 128 : Nat) : Int) := by omega
    repeat (first | ((with_reducible refine Tr.step rfl ?_); (first | ((with_reducible refine Knd.move ?_); (refine Exec.stab rfl (Stab.move rfl) rfl ?_)) | ((with_reducible refine Knd.binOp ?_); (first | (refine Exec.stab rfl (Stab.addu8 rfl rfl (by omega)) rfl ?_) | (refine Exec.stab rfl (Stab.and64 7 rfl rfl rfl rfl (by omega) (p := 128) rfl) rfl ?_) | (refine Exec.stab rfl (Stab.int rfl rfl rfl) rfl ?_))) | ((with_reducible refine Knd.convert ?_); ((refine Exec.stab rfl (Stab.convu8 rfl (tysOk.get rfl) (tysOk.get rfl) rfl rfl (by omega)) rfl ?_))) | ((with_reducible refine Knd.buildSlice ?_); (refine Exec.buildSlice (tysOk.get rfl) rfl (tysOk.get rfl) rfl rfl rfl rfl rfl (by repeat (first | exact BuildP.nil | ((apply BuildP.one); (rfl); (rfl); (first | rfl | assumption); (repeat (first | exact SetL.z | apply SetL.s))))) rfl (fun b => ?_))))) | (with_reducible refine Tr.next ?_) | (with_reducible refine Tr.seq ?_) | (with_reducible refine Tr.region ?_) | (with_reducible refine Tr.nil ?_) | (with_reducible refine Tr.skip ?_) | (with_reducible refine Tr.block ?_) | (refine Tr.cond_t rfl (by first | (with_reducible assumption) | omega) ?_))
    rw [hr]
    refine Tr.cells (cs' := byteV [UInt8.ofNat (v % 128 + 128)]) (by repeat (first | exact Upd.here | apply Upd.there)) (bV _ (by omega)) ?_
    ((refine Tr.step rfl ?_))
    refine Exec.append (news := byteV [UInt8.ofNat (v % 128 + 128)]) rfl rfl (tysOk.get rfl) rfl (tysOk.get rfl) rfl rfl rfl rfl (by repeat (first | exact Del.here | apply Del.there)) (Src.box (by repeat (first | exact Has.here | apply Has.there))) (by simp) (byteV_one _) (by omega) (by omega) rfl (fun A2 c2 hc2 => ?_)
    rw [← byteV_append, show cs.length + 1 = (cs ++ [UInt8.ofNat (v % 128 + 128)]).length by simp]
    repeat (first | ((with_reducible refine Tr.step rfl ?_); (first | ((with_reducible refine Knd.move ?_); (refine Exec.stab rfl (Stab.move rfl) rfl ?_)) | ((with_reducible refine Knd.assign ?_); (refine Exec.stab rfl (Stab.assign rfl) rfl ?_)) | ((with_reducible refine Knd.binOp ?_); ((refine Exec.stab rfl (Stab.shrc 7 (p := 128) rfl rfl rfl rfl) rfl ?_))))) | (with_reducible refine Tr.next ?_) | (with_reducible refine Tr.region ?_) | (with_reducible refine Tr.nil ?_) | (with_reducible refine Tr.in_normal ?_))
    rw [hq]
    refine Tr.give (r := box _ 5 _) (by repeat (first | exact Del.here | apply Del.there)) ?_
    refine Tr.again (v / 128, cs ++ [UInt8.ofNat (v % 128 + 128)], A2, c2) ⟨by simp only; omega, hc2, by simp only; rw [← h3, num_big (u := v) h]; simp⟩ (by simp only; omega) (holds_sub (by repeat (first | exact SubFr.nil | refine SubFr.cons rfl ?_)) (by repeat (first | exact DropL.refl | apply DropL.skip)))
  · repeat (first | ((with_reducible refine Tr.step rfl ?_); (first | ((with_reducible refine Knd.move ?_); (refine Exec.stab rfl (Stab.move rfl) rfl ?_)) | ((with_reducible refine Knd.binOp ?_); ((refine Exec.stab rfl (Stab.int rfl rfl rfl) rfl ?_))) | ((with_reducible refine Knd.convert ?_); ((refine Exec.stab rfl (Stab.convu8 rfl (tysOk.get rfl) (tysOk.get rfl) rfl rfl (by omega)) rfl ?_))) | ((with_reducible refine Knd.buildSlice ?_); (refine Exec.buildSlice (tysOk.get rfl) rfl (tysOk.get rfl) rfl rfl rfl rfl rfl (by repeat (first | exact BuildP.nil | ((apply BuildP.one); (rfl); (rfl); (first | rfl | assumption); (repeat (first | exact SetL.z | apply SetL.s))))) rfl (fun b => ?_))))) | (with_reducible refine Tr.next ?_) | (with_reducible refine Tr.seq ?_) | (with_reducible refine Tr.region ?_) | (with_reducible refine Tr.nil ?_) | (with_reducible refine Tr.exit ?_) | (with_reducible refine Tr.then_exit ?_) | ((with_reducible refine Tr.in_exit ?_ ?_); (exact rfl)) | (refine Tr.cond_f rfl (by first | (with_reducible assumption) | omega) ?_))
    refine Tr.cells (cs' := byteV (num v)) (by repeat (first | exact Upd.here | apply Upd.there)) (by rw [num_small (by omega)]; exact bV v (by omega)) ?_
    ((refine Tr.step rfl ?_))
    have hnv : (num v).length = 1 := by rw [num_small (by omega)]; rfl
    refine Exec.append (news := byteV (num v)) rfl rfl (tysOk.get rfl) rfl (tysOk.get rfl) rfl rfl rfl rfl (by repeat (first | exact Del.here | apply Del.there)) (Src.box (by repeat (first | exact Has.here | apply Has.there))) (by simp [hnv]) (byteV_one _) (by omega) (by omega) rfl (fun A2 c2 hc2 => ?_)
    rw [← byteV_append, h3, show cs.length + 1 = (bs ++ num u).length by simp; omega]
    repeat (first | ((with_reducible refine Tr.step rfl ?_); (((with_reducible refine Knd.assign ?_); (refine Exec.stab rfl (Stab.assign rfl) rfl ?_)))) | (with_reducible refine Tr.next ?_) | (with_reducible refine Tr.nil ?_) | (with_reducible refine Tr.ret ?_))
    refine Tr.doneA (A' := [ownS 5 1 A2 (bs ++ num u).length c2 (byteV (bs ++ num u))]) (by first | exact .inl rfl | exact .inr rfl) rfl (by repeat (first | exact RVs.nil | (apply RVs.cons; (exact RV.tmp rfl)))) (Mem.le.refl _) ⟨fun r hr => by simp at hr ⊢; rcases hr with rfl | hr <;> simp_all, fun h => by simp only [List.flatMap_append, List.flatMap_cons, List.flatMap_nil, List.append_nil, List.nil_append, List.nodup_append, List.cons_append] at h ⊢; exact ⟨h.1, h.2.1.2.1, fun a ha b hb => h.2.2 a ha b (by simp [hb])⟩⟩ ⟨rfl, A2, c2, rfl, hc2, rfl⟩
set_option maxHeartbeats 1000000 in
theorem rnumeral_fn (M : Mem) : ∀ (u : Nat), u < 2 ^ 64 → Fn0 Try.prog 51 [.int .u64 (u : Int)] M (fun r M' => ∃ A c, r = .slice A (num u).length c ∧ BSl M' (.slice A (num u).length c) (num u)) := by
  intro u
  induction u using Nat.strongRecOn with
  | _ u ih =>
    intro hu
    refine Fn.intro Try.func51 rfl rfl Try.ntmps51 rfl fun E F => ?_
    by_cases h : u < 128
    · repeat (first | ((with_reducible refine Tr.step rfl ?_); (first | ((with_reducible refine Knd.move ?_); (refine Exec.stab rfl (Stab.move rfl) rfl ?_)) | ((with_reducible refine Knd.assign ?_); (refine Exec.stab rfl (Stab.assign rfl) rfl ?_)) | ((with_reducible refine Knd.binOp ?_); ((refine Exec.stab rfl (Stab.int rfl rfl rfl) rfl ?_))) | ((with_reducible refine Knd.convert ?_); ((refine Exec.stab rfl (Stab.convu8 rfl (tysOk.get rfl) (tysOk.get rfl) rfl rfl (by omega)) rfl ?_))) | ((with_reducible refine Knd.buildSlice ?_); (refine Exec.buildSlice (tysOk.get rfl) rfl (tysOk.get rfl) rfl rfl rfl rfl rfl (by repeat (first | exact BuildP.nil | ((apply BuildP.one); (rfl); (rfl); (first | rfl | assumption); (repeat (first | exact SetL.z | apply SetL.s))))) rfl (fun b => ?_))))) | (with_reducible refine Tr.next ?_) | (with_reducible refine Tr.seq ?_) | (with_reducible refine Tr.region ?_) | (with_reducible refine Tr.nil ?_) | (with_reducible refine Tr.ret ?_) | (with_reducible refine Tr.then_ret ?_) | (refine Tr.cond_t rfl (by first | (with_reducible assumption) | omega) ?_))
      refine Tr.cells (cs' := byteV (num u)) (by repeat (first | exact Upd.here | apply Upd.there)) (by rw [num_small h]; exact bV u (by omega)) ?_
      refine Tr.publish (by repeat (first | exact Del.here | apply Del.there)) (fun M' hm hok => ?_)
      (refine Tr.done (by first | exact .inl rfl | exact .inr rfl) rfl (by repeat (first | exact RVs.nil | (apply RVs.cons; (exact RV.tmp rfl)))) (by first | exact Mem.le.refl _ | assumption) (by exact ⟨[], rfl⟩) ⟨rfl, ?_⟩)
      have := BSl.ofBox hok (by rw [num_small h]; simp)
      rw [num_small h] at this ⊢
      exact ⟨_, _, rfl, this⟩
    · have hq : ((u : Int) / 128) = ((u / 128 : Nat) : Int) := by omega
      have hr : ((u : Int) % 128 + 128) = ((u % 128 + 128 : Nat) : Int) := by omega
      have h128 : u / 128 < 2 ^ 64 := by omega
      have hl := num_len_le h128
      repeat (first | ((with_reducible refine Tr.step rfl ?_); (first | ((with_reducible refine Knd.move ?_); (refine Exec.stab rfl (Stab.move rfl) rfl ?_)) | ((with_reducible refine Knd.assign ?_); (refine Exec.stab rfl (Stab.assign rfl) rfl ?_)) | ((with_reducible refine Knd.binOp ?_); (first | (refine Exec.stab rfl (Stab.addu64 rfl rfl (by omega)) rfl ?_) | (refine Exec.stab rfl (Stab.int rfl rfl rfl) rfl ?_) | (refine Exec.stab rfl (Stab.remp rfl rfl (by omega) (by omega)) rfl ?_) | (refine Exec.stab rfl (Stab.quou64 rfl rfl (by omega) (by omega) (by omega)) rfl ?_))) | ((with_reducible refine Knd.convert ?_); ((refine Exec.stab rfl (Stab.convu8 rfl (tysOk.get rfl) (tysOk.get rfl) rfl rfl (by omega)) rfl ?_))) | ((with_reducible refine Knd.buildSlice ?_); (refine Exec.buildSlice (tysOk.get rfl) rfl (tysOk.get rfl) rfl rfl rfl rfl rfl (by repeat (first | exact BuildP.nil | ((apply BuildP.one); (rfl); (rfl); (first | rfl | assumption); (repeat (first | exact SetL.z | apply SetL.s))))) rfl (fun b => ?_))))) | (with_reducible refine Tr.next ?_) | (with_reducible refine Tr.seq ?_) | (with_reducible refine Tr.region ?_) | (with_reducible refine Tr.nil ?_) | (with_reducible refine Tr.skip ?_) | (refine Tr.cond_f rfl (by first | (with_reducible assumption) | omega) ?_))
      rw [hq, hr]
      refine Tr.cells (cs' := byteV [UInt8.ofNat (u % 128 + 128)]) (by repeat (first | exact Upd.here | apply Upd.there)) (bV _ (by omega)) ?_
      ((refine Tr.step rfl ?_)); refine Exec.call0 rfl (ih (u / 128) (by omega) h128) rfl ?_
      rintro _ M1 hm1 ⟨A1, c1, rfl, hb1⟩
      have hcap := hb1.cap
      refine Tr.box_own 1 1 (by repeat (first | exact Upd.here | apply Upd.there)) rfl (byteV_one _) (by simp [maxLen]) ?_
      ((refine Tr.step rfl ?_))
      refine Exec.append (news := byteV (num (u / 128))) rfl rfl (tysOk.get rfl) rfl (tysOk.get rfl) rfl rfl rfl rfl (by repeat (first | exact Del.here | apply Del.there)) (Src.row hcap.2.2.2) (by simp) (byteV_one _) (by omega) (by omega) rfl (fun A2 c2 hc2 => ?_)
      rw [← byteV_append]
      have e : 1 + (num (u / 128)).length = ([UInt8.ofNat (u % 128 + 128)] ++ num (u / 128)).length := by simp; omega
      have e2 : [UInt8.ofNat (u % 128 + 128)] ++ num (u / 128) = num u := by rw [num_big (u := u) (by omega)]; rfl
      rw [e, e2]
      repeat (first | ((with_reducible refine Tr.step rfl ?_); (((with_reducible refine Knd.assign ?_); (refine Exec.stab rfl (Stab.assign rfl) rfl ?_)))) | (with_reducible refine Tr.next ?_) | (with_reducible refine Tr.nil ?_) | (with_reducible refine Tr.ret ?_))
      refine Tr.publish (r := ownS 5 1 _ _ _ _) (by repeat (first | exact Del.here | apply Del.there)) (fun M' hm hok => ?_)
      have hmz := hm1.trans hm
      (refine Tr.done (by first | exact .inl rfl | exact .inr rfl) rfl (by repeat (first | exact RVs.nil | (apply RVs.cons; (exact RV.tmp rfl)))) (by first | exact Mem.le.refl _ | assumption) (by exact ⟨[], rfl⟩) ⟨rfl, ?_⟩)
      exact ⟨A2, c2, rfl, BSl.ofOwn hok rfl hc2⟩
end Go.Proofs.Ytgcjpicnibeemaa
