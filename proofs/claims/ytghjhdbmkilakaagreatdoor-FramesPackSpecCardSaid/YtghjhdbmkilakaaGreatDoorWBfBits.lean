/-
  Bits of words and bytes with a number of the text, and numbers that are put together from bytes.
  Conditions: none; plain laws over any program.
-/
import Derived.Test.YtghjhdbmkilakaaGreatDoorWBfW32
import Derived.Test.YtghjhdbmkilakaaGreatDoorWBfInts
import Derived.Test.YtghjhdbmkilakaaGreatDoorWBfByte
namespace Bf
open Go
theorem wrap_u8_nat (n : Nat) : IntKind.u8.wrap (n : Int) = ((UInt8.ofNat n).toNat : Int) := by
  rw [UInt8.toNat_ofNat']
  simp [IntKind.wrap, IntKind.signed, IntKind.bits]
section
variable {P : Program} {fr : Fr} {M : Mem} {L : List Res} {d : Nat} {ty : TypeId} {pos : String} {aft : Array Edge} {g : Option (Nat × Bool)}
/-- a number that is shifted to the left by a number of the text -/
theorem Stab.shlk (b : Nat) {t u : TypeId} {x y : Operand} {k' : IntKind} {a p : Int} (hx : ev fr x = some (.int .i64 a)) (hy : ev fr y = some (.int k' b)) (hb : Nat.ble b 62 = true) (hp : p = 2 ^ b) (h : 0 ≤ a * p ∧ a * p ≤ 9223372036854775807) :
    Stab P fr M L ⟨some d, .binOp .shl t x y u, ty, pos, aft, g⟩ (.int .i64 (a * p)) := by
  have h' := Stab.shl (P := P) (M := M) (L := L) (d := d) (ty := ty) (pos := pos) (aft := aft) (g := g) (t := t) (u := u) hx hy (by omega)
  have e : min ((b : Int).toNat) IntKind.i64.bits = b := by have := Nat.ble_eq.mp hb; show min ((b : Int).toNat) 64 = b; omega
  rw [e, ← hp, IntWalk.i64_in _ ⟨by omega, by omega⟩] at h'
  exact h'
/-- two numbers whose bits do not meet -/
theorem Stab.ork (j : Nat) {t u : TypeId} {x y : Operand} {a b p : Int} (hx : ev fr x = some (.int .i64 a)) (hy : ev fr y = some (.int .i64 b)) (hj : Nat.ble j 62 = true) (hp : p = 2 ^ j)
    (ha : 0 ≤ a ∧ a ≤ 4611686018427387903) (hb : 0 ≤ b ∧ b < p) (hd : a % p = 0) :
    Stab P fr M L ⟨some d, .binOp .or t x y u, ty, pos, aft, g⟩ (.int .i64 (a + b)) := by
  refine Stab.int hx hy ?_
  simp only [intOp]
  obtain ⟨m, rfl⟩ := Int.eq_ofNat_of_zero_le ha.1
  obtain ⟨n, rfl⟩ := Int.eq_ofNat_of_zero_le hb.1
  have hj' := Nat.ble_eq.mp hj
  have hpn : p = ((2 ^ j : Nat) : Int) := by rw [hp]; simp
  have h62 : 2 ^ j ≤ 2 ^ 62 := Nat.pow_le_pow_right (by decide) hj'
  have hn : n < 2 ^ j := by omega
  have hm : m % 2 ^ j = 0 := by
    rw [hpn] at hd
    exact_mod_cast hd
  obtain ⟨q, hq⟩ := Nat.dvd_of_mod_eq_zero hm
  rw [(bits_nat .i64 63 (by decide) (fun n h0 h1 => IntWalk.i64_in _ ⟨by omega, by omega⟩) m n (by omega) (by omega)).2]
  have e : m ||| n = m + n := by
    rw [hq, ← Nat.two_pow_add_eq_or_of_lt hn q]
  rw [e]
  simp
/-- the lowest byte of a number -/
theorem Stab.lowb {s t : TypeId} {i j : TyI} {x : Operand} {n : Nat} (hx : ev fr x = some (.int .i64 (n : Int))) (hS : HasTy P s j) (hT : HasTy P t i) (hs : j.desc = .int .i64) (hd : i.desc = .int .u8) :
    Stab P fr M L ⟨some d, .convert s t x, ty, pos, aft, g⟩ (.int .u8 ((UInt8.ofNat n).toNat : Int)) := by
  have h := Stab.conv (P := P) (M := M) (L := L) (d := d) (ty := ty) (pos := pos) (aft := aft) (g := g) hx hS hT hs hd
  rw [wrap_u8_nat] at h
  exact h
end
end Bf

