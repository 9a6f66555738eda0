/-
  More operations: checks for nil, interface values, panics, elements of array values, numbers without sign.
  Conditions: none; plain laws over any program.
-/
import Derived.Test.YtghjhdbmkilakaaGreatDoorWBfPan
import Derived.Laws.BitsLemmas
import Derived.Laws.Build
import Derived.WalkSmall
import Derived.Laws.Small
namespace Bf
open Go
section
variable {r : Option Nat} {P : Program} {E : World} {Q : Exit → Act → World → Prop} {n : Nat} {fr : Fr} {D : List Deferred} {M : Mem} {L : List Res} {K : S → Prop}
variable {d : Nat} {ty : TypeId} {pos : String} {aft : Array Edge} {g : Option (Nat × Bool)}
theorem Stab.nilCheck {x : Operand} {a : Addr} (hx : ev fr x = some (.pointer (some a))) : Stab P fr M L ⟨some d, .nilCheck x, ty, pos, aft, g⟩ (.pointer (some a)) := by
  intro n' D ac w hf _
  simp [execOp, hf.ev hx]
theorem Stab.makeIface {t : TypeId} {x : Operand} {v : Value} (hx : ev fr x = some v) (hc : P.concrete t = true) : Stab P fr M L ⟨some d, .makeInterface t x, ty, pos, aft, g⟩ (.iface t v) := by
  intro n' D ac w hf _
  simp [execOp, hf.ev hx, run_makeInterface w t v hc]
/-- the text's own panic -/
theorem Exec.panic {t : TypeId} {x : Operand} {v : Value} {dst : Option Tmp} (hx : ev fr x = some (.iface t v)) (k : Tr E ⟨n, fr, D, M, L⟩ (Q (.panic [{ v := .iface t v, recovered := false }]))) :
    Exec r P E Q ⟨n, fr, D, M, L⟩ ⟨dst, .panic x, ty, pos, aft, g⟩ K := fun a w hs => by
  refine ⟨fun _ _ => trivial, ?_⟩
  have h : (Oper.semAt r a.eval ⟨dst, .panic x, ty, pos, aft, g⟩).run P w = .halt (.panic (.iface t v)) w := by
    have e : Oper.semAt r a.eval ⟨dst, .panic x, ty, pos, aft, g⟩ = execOp a.eval ⟨dst, .panic x, ty, pos, aft, g⟩ := by
      cases r with
      | none => rfl
      | some l => rfl
    rw [e]
    simp [execOp, hs.fits.ev hx, run_panic_iface]
  show Oper.uponIn (rf r) 0 P _ a _ Q ((Oper.semAt r a.eval _).run P w)
  rw [h]
  exact k a w hs
/-- an element of an array value, of more than one cell -/
theorem Stab.indexVA {t e : TypeId} {i ei : TyI} {x y : Operand} {cs rr : List Value} {len off : Nat} {k : IntKind} {m : Int} (hx : ev fr x = some (.agg cs.toArray)) (hy : ev fr y = some (.int k m))
    (hT : HasTy P t i) (hd : i.desc = .array len e) (hE : HasTy P e ei) (ha : TypeDesc.agg ei.desc = true) (h0 : 0 ≤ m) (h1 : m < len) (ho : m.toNat * ei.size = off) (hr : TakeL ei.size (dropL off cs) rr) :
    Stab P fr M L ⟨some d, .index t x y, ty, pos, aft, g⟩ (.agg rr.toArray) := by
  intro n' D ac w hf _
  have hu := hT.1
  rw [hd] at hu
  subst ho
  obtain ⟨hr1, hr2⟩ := hr.eq
  rw [dropL_eq] at hr1 hr2
  have he : cs.toArray.extract (m.toNat * ei.size) (m.toNat * ei.size + ei.size) = rr.toArray := by
    apply Array.ext'
    simp [hr1, List.extract_eq_take_drop]
  simp only [execOp, hf.ev hx, hf.ev hy, Instr.index, asIntOf]
  simp only [Sem.run_bind, run_underlying hu, Result.andThen_ok, Sem.run_pure]
  rw [if_pos ⟨h0, h1⟩]
  simp only [Sem.run_bind, run_sizeOf hE, Result.andThen_ok, part, run_isAgg hE.1, ha, if_true, Sem.run_pure, he]

/-- an array value -/
theorem Stab.buildA {t e : TypeId} {i ei : TyI} {sz len : Nat} {ps : List (Nat × Operand)} {z cs : List Value} (hT : HasTy P t i) (hd : i.desc = .array len e) (hE : HasTy P e ei) (hsz : szOf ei = some sz)
    (hz : i.zero = .agg z.toArray) (hb : BuildP fr (fun k => some (k * sz, sz)) ps z cs) :
    Stab P fr M L ⟨some d, .build t ps.toArray, ty, pos, aft, g⟩ (.agg cs.toArray) := by
  obtain rfl := szOf_eq hsz
  intro n D a w hf _
  have hu := hT.1
  rw [hd] at hu
  have hb' := hb.fill hf
  have hps : (ps.toArray.map fun (i, x) => (i, a.eval x)).toList = ps.map fun p => (p.1, a.eval p.2) := by simp
  simp only [execOp, Instr.build, Sem.run_bind, run_zeroValue hT, Result.andThen_ok, run_underlying hu, hz, Value.cells, run_sizeOf hE, hps, hb', Sem.run_pure]
theorem Stab.lensL {t : TypeId} {i : TyI} {x : Operand} {l : List UInt8} (hx : ev fr x = some (.string ⟨l.toArray⟩)) (hT : HasTy P t i) (hd : (match i.desc with | .string => true | _ => false) = true) :
    Stab P fr M L ⟨some d, .call { callee := .builtin .len, args := #[x], argTypes := #[t] }, ty, pos, aft, g⟩ (.int .i64 (l.length : Int)) := by
  have := Stab.lens (P := P) (M := M) (L := L) (d := d) (ty := ty) (pos := pos) (aft := aft) (g := g) hx hT hd
  simpa using this
theorem Stab.max2 {x y : Operand} {k k' : IntKind} {a b : Int} {ts : Array TypeId} (hx : ev fr x = some (.int k a)) (hy : ev fr y = some (.int k' b)) :
    Stab P fr M L ⟨some d, .call { callee := .builtin .max, args := #[x, y], argTypes := ts }, ty, pos, aft, g⟩ (.int k (max a b)) := by
  intro n D ac w hf _
  have e : max a b = if b > a then b else a := by rw [Int.max_def]; split <;> split <;> omega
  rw [e]
  simp [execOp, resolve, invoke, builtin, hf.ev hx, hf.ev hy, run_max_int2, run_min_int2]
theorem Stab.quou64 {t u : TypeId} {x y : Operand} {a b : Int} (hx : ev fr x = some (.int .u64 a)) (hy : ev fr y = some (.int .u64 b)) (h0 : 0 ≤ a) (h1 : a ≤ 18446744073709551615) (hb : 0 < b) :
    Stab P fr M L ⟨some d, .binOp .quo t x y u, ty, pos, aft, g⟩ (.int .u64 (a / b)) := by
  have h := Stab.quot (P := P) (M := M) (L := L) (d := d) (ty := ty) (pos := pos) (aft := aft) (g := g) (t := t) (u := u) hx hy (by omega)
  rw [Int.tdiv_eq_ediv_of_nonneg h0] at h
  have h2 : 0 ≤ a / b := Int.ediv_nonneg h0 (by omega)
  have h3 : a / b ≤ a := Int.ediv_le_self _ h0
  rwa [IntWalk.u64_in _ ⟨by omega, by omega⟩] at h
theorem Stab.convu8 {s t : TypeId} {i j : TyI} {x : Operand} {k' : IntKind} {m : Int} (hx : ev fr x = some (.int k' m)) (hS : HasTy P s j) (hT : HasTy P t i) (hs : j.desc = .int k') (hd : i.desc = .int .u8)
    (h : 0 ≤ m ∧ m ≤ 255) : Stab P fr M L ⟨some d, .convert s t x, ty, pos, aft, g⟩ (.int .u8 m) := by
  have h' := Stab.conv (P := P) (M := M) (L := L) (d := d) (ty := ty) (pos := pos) (aft := aft) (g := g) hx hS hT hs hd
  rwa [IntWalk.u8_in _ h] at h'
theorem Stab.convu64 {s t : TypeId} {i j : TyI} {x : Operand} {k' : IntKind} {m : Int} (hx : ev fr x = some (.int k' m)) (hS : HasTy P s j) (hT : HasTy P t i) (hs : j.desc = .int k') (hd : i.desc = .int .u64)
    (h : 0 ≤ m ∧ m ≤ 18446744073709551615) : Stab P fr M L ⟨some d, .convert s t x, ty, pos, aft, g⟩ (.int .u64 m) := by
  have h' := Stab.conv (P := P) (M := M) (L := L) (d := d) (ty := ty) (pos := pos) (aft := aft) (g := g) hx hS hT hs hd
  rwa [IntWalk.u64_in _ h] at h'
theorem Stab.addu8 {t u : TypeId} {x y : Operand} {a b : Int} (hx : ev fr x = some (.int .u8 a)) (hy : ev fr y = some (.int .u8 b)) (h : 0 ≤ a + b ∧ a + b ≤ 255) :
    Stab P fr M L ⟨some d, .binOp .add t x y u, ty, pos, aft, g⟩ (.int .u8 (a + b)) := by
  refine Stab.int hx hy ?_
  simp only [intOp]
  rw [IntWalk.u8_in _ h]
theorem Stab.addu64 {t u : TypeId} {x y : Operand} {a b : Int} (hx : ev fr x = some (.int .u64 a)) (hy : ev fr y = some (.int .u64 b)) (h : 0 ≤ a + b ∧ a + b ≤ 18446744073709551615) :
    Stab P fr M L ⟨some d, .binOp .add t x y u, ty, pos, aft, g⟩ (.int .u64 (a + b)) := by
  refine Stab.int hx hy ?_
  simp only [intOp]
  rw [IntWalk.u64_in _ h]
theorem Stab.subu64 {t u : TypeId} {x y : Operand} {a b : Int} (hx : ev fr x = some (.int .u64 a)) (hy : ev fr y = some (.int .u64 b)) (h : 0 ≤ a - b ∧ a - b ≤ 18446744073709551615) :
    Stab P fr M L ⟨some d, .binOp .sub t x y u, ty, pos, aft, g⟩ (.int .u64 (a - b)) := by
  refine Stab.int hx hy ?_
  simp only [intOp]
  rw [IntWalk.u64_in _ h]
theorem Stab.mulu64 {t u : TypeId} {x y : Operand} {a b : Int} (hx : ev fr x = some (.int .u64 a)) (hy : ev fr y = some (.int .u64 b)) (h : 0 ≤ a * b ∧ a * b ≤ 18446744073709551615) :
    Stab P fr M L ⟨some d, .binOp .mul t x y u, ty, pos, aft, g⟩ (.int .u64 (a * b)) := by
  refine Stab.int hx hy ?_
  simp only [intOp]
  rw [IntWalk.u64_in _ h]
theorem wraps_u8 (n : Int) (h₀ : 0 ≤ n) (h₁ : n < 2 ^ 8) : IntKind.u8.wrap n = n := IntWalk.u8_in _ ⟨h₀, by omega⟩
theorem wraps_u64 (n : Int) (h₀ : 0 ≤ n) (h₁ : n < 2 ^ 64) : IntKind.u64.wrap n = n := IntWalk.u64_in _ ⟨h₀, by omega⟩
/-- the lowest bits -/
theorem Stab.and8 {t u : TypeId} {x y : Operand} {a m : Int} (i : Nat) (hx : ev fr x = some (.int .u8 a)) (hy : ev fr y = some (.int .u8 m)) (hi : Nat.ble i 8 = true) (hm : m = 2 ^ i - 1) (h : 0 ≤ a ∧ a ≤ 255) {p : Int} (hp : p = 2 ^ i) :
    Stab P fr M L ⟨some d, .binOp .and t x y u, ty, pos, aft, g⟩ (.int .u8 (a % p)) := by
  refine Stab.int hx hy ?_
  subst hm hp
  simp only [intOp]
  rw [bits_mask .u8 8 (by decide) wraps_u8 i (Nat.ble_eq.mp hi) a h.1 (by omega)]
theorem Stab.and64 {t u : TypeId} {x y : Operand} {a m : Int} (i : Nat) (hx : ev fr x = some (.int .u64 a)) (hy : ev fr y = some (.int .u64 m)) (hi : Nat.ble i 64 = true) (hm : m = 2 ^ i - 1) (h : 0 ≤ a ∧ a ≤ 18446744073709551615) {p : Int} (hp : p = 2 ^ i) :
    Stab P fr M L ⟨some d, .binOp .and t x y u, ty, pos, aft, g⟩ (.int .u64 (a % p)) := by
  refine Stab.int hx hy ?_
  subst hm hp
  simp only [intOp]
  rw [bits_mask .u64 64 (by decide) wraps_u64 i (Nat.ble_eq.mp hi) a h.1 (by omega)]
/-- a shift to the right by a number that the text gives -/
theorem Stab.shrc {t u : TypeId} {x y : Operand} {k k' : IntKind} {a : Int} (b : Nat) {p : Int} (hx : ev fr x = some (.int k a)) (hy : ev fr y = some (.int k' b)) (hb : Nat.ble b k.bits = true) (hp : p = 2 ^ b) :
    Stab P fr M L ⟨some d, .binOp .shr t x y u, ty, pos, aft, g⟩ (.int k (a / p)) := by
  have h := Stab.shr (P := P) (M := M) (L := L) (d := d) (ty := ty) (pos := pos) (aft := aft) (g := g) (t := t) (u := u) hx hy (by omega)
  have e : min ((b : Int).toNat) k.bits = b := by have := Nat.ble_eq.mp hb; omega
  have hp' : (0 : Int) ≤ 2 ^ b := Int.pow_nonneg (by decide)
  rw [e, Int.fdiv_eq_ediv_of_nonneg _ hp', ← hp] at h
  exact h
theorem Stab.shlc64 {t u : TypeId} {x y : Operand} {k' : IntKind} {a : Int} (b : Nat) {p : Int} (hx : ev fr x = some (.int .u64 a)) (hy : ev fr y = some (.int k' b)) (hb : Nat.ble b 64 = true) (hp : p = 2 ^ b) (h : 0 ≤ a * p ∧ a * p ≤ 18446744073709551615) :
    Stab P fr M L ⟨some d, .binOp .shl t x y u, ty, pos, aft, g⟩ (.int .u64 (a * p)) := by
  have h' := Stab.shl (P := P) (M := M) (L := L) (d := d) (ty := ty) (pos := pos) (aft := aft) (g := g) (t := t) (u := u) hx hy (by omega)
  have e : min ((b : Int).toNat) IntKind.u64.bits = b := by have := Nat.ble_eq.mp hb; show min ((b : Int).toNat) 64 = b; omega
  rw [e, ← hp, IntWalk.u64_in _ h] at h'
  exact h'
/-- bits that do not meet -/
theorem bits_or_add {a b j : Nat} (hj : j ≤ 64) (ha : a < 2 ^ j) (h : a + b * 2 ^ j < 2 ^ 64) : Go.bits .or .u64 (a : Int) ((b * 2 ^ j : Nat) : Int) = ((a + b * 2 ^ j : Nat) : Int) := by
  have hp : 2 ^ j ≤ 2 ^ 64 := Nat.pow_le_pow_right (by decide) hj
  rw [(bits_nat .u64 64 (by decide) wraps_u64 a (b * 2 ^ j) (by omega) (by omega)).2]
  congr 1
  rw [Nat.or_comm, Nat.mul_comm b, ← Nat.two_pow_add_eq_or_of_lt ha b, Nat.add_comm]
theorem bits_xor0 {k : IntKind} (hk : k = .u64 ∨ k = .i64) {a : Int} (h : -9223372036854775808 ≤ a ∧ a ≤ 9223372036854775807) (h0 : k = .u64 → 0 ≤ a) : Go.bits .xor k a 0 = a := by
  rcases hk with rfl | rfl
  · obtain ⟨n, rfl⟩ := Int.eq_ofNat_of_zero_le (h0 rfl)
    simp only [Go.bits, BitVec.ofInt_natCast]
    have e0 : BitVec.ofNat IntKind.u64.bits n ^^^ BitVec.ofInt IntKind.u64.bits 0 = BitVec.ofNat IntKind.u64.bits n := by simp
    have : (BitVec.ofNat IntKind.u64.bits n ^^^ BitVec.ofInt IntKind.u64.bits 0).toNat = n := by
      rw [e0]
      simp [IntKind.bits]; omega
    rw [this]
    exact IntWalk.u64_in _ ⟨by omega, by omega⟩
  · simp only [Go.bits]
    have : (BitVec.ofInt IntKind.i64.bits a ^^^ BitVec.ofInt IntKind.i64.bits 0) = BitVec.ofInt IntKind.i64.bits a := by simp
    rw [this]
    have e : ((BitVec.ofInt IntKind.i64.bits a).toNat : Int) = a % 2 ^ 64 := by simp [BitVec.toNat_ofInt, IntKind.bits]; omega
    rw [e, IntKind.wrap_i64]
    omega
theorem bits_xor0u {a : Int} (h : 0 ≤ a ∧ a ≤ 18446744073709551615) : Go.bits .xor .u64 a 0 = a := by
  obtain ⟨n, rfl⟩ := Int.eq_ofNat_of_zero_le h.1
  have e0 : Go.bits .xor .u64 (n : Int) 0 = IntKind.u64.wrap ((BitVec.ofInt 64 (n : Int) ^^^ BitVec.ofInt 64 0).toNat : Int) := rfl
  have e2 : (BitVec.ofInt 64 (n : Int) ^^^ BitVec.ofInt 64 0).toNat = n := by
    have e1 : BitVec.ofInt 64 (n : Int) ^^^ BitVec.ofInt 64 0 = BitVec.ofNat 64 n := by rw [BitVec.ofInt_natCast]; simp
    rw [e1, BitVec.toNat_ofNat]
    omega
  rw [e0, e2, IntWalk.u64_in _ ⟨by omega, by omega⟩]
theorem bits_xor_ones {a : Int} (h : 0 ≤ a ∧ a ≤ 18446744073709551615) : Go.bits .xor .u64 a 18446744073709551615 = 18446744073709551615 - a := by
  obtain ⟨n, rfl⟩ := Int.eq_ofNat_of_zero_le h.1
  have e0 : Go.bits .xor .u64 (n : Int) 18446744073709551615 = IntKind.u64.wrap ((BitVec.ofInt 64 (n : Int) ^^^ BitVec.ofInt 64 18446744073709551615).toNat : Int) := rfl
  have e1 : BitVec.ofInt 64 18446744073709551615 = BitVec.allOnes 64 := by decide
  have e2 : (BitVec.ofInt 64 (n : Int) ^^^ BitVec.allOnes 64).toNat = 18446744073709551615 - n := by
    rw [BitVec.ofInt_natCast, BitVec.xor_allOnes, BitVec.toNat_not, BitVec.toNat_ofNat]
    omega
  rw [e0, e1, e2, IntWalk.u64_in _ ⟨by omega, by omega⟩]
  omega
theorem bits_xor_m1 {a : Int} (h : 0 ≤ a ∧ a ≤ 9223372036854775807) : Go.bits .xor .i64 a (-1) = - a - 1 := by
  obtain ⟨n, rfl⟩ := Int.eq_ofNat_of_zero_le h.1
  have e0 : Go.bits .xor .i64 (n : Int) (-1) = IntKind.i64.wrap ((BitVec.ofInt 64 (n : Int) ^^^ BitVec.ofInt 64 (-1)).toNat : Int) := rfl
  have e1 : BitVec.ofInt 64 (-1) = BitVec.allOnes 64 := by decide
  have e2 : (BitVec.ofInt 64 (n : Int) ^^^ BitVec.allOnes 64).toNat = 18446744073709551615 - n := by
    rw [BitVec.ofInt_natCast, BitVec.xor_allOnes, BitVec.toNat_not, BitVec.toNat_ofNat]
    omega
  rw [e0, e1, e2, IntKind.wrap_i64]
  omega
end
section
variable {r : Option Nat} {P : Program} {E : World} {Q : Exit → Act → World → Prop} {s : S} {K : S → Prop} {d : Nat} {ty : TypeId} {pos : String} {aft : Array Edge} {g : Option (Nat × Bool)}
theorem Knd.max {x y : Operand} {ts : Array TypeId} (h : Exec r P E Q s ⟨some d, .call { callee := .builtin .max, args := #[x, y], argTypes := ts }, ty, pos, aft, g⟩ K) : Exec r P E Q s ⟨some d, .call { callee := .builtin .max, args := #[x, y], argTypes := ts }, ty, pos, aft, g⟩ K := h
theorem Knd.min {x y : Operand} {ts : Array TypeId} (h : Exec r P E Q s ⟨some d, .call { callee := .builtin .min, args := #[x, y], argTypes := ts }, ty, pos, aft, g⟩ K) : Exec r P E Q s ⟨some d, .call { callee := .builtin .min, args := #[x, y], argTypes := ts }, ty, pos, aft, g⟩ K := h
theorem Knd.nilCheck {x : Operand} (h : Exec r P E Q s ⟨some d, .nilCheck x, ty, pos, aft, g⟩ K) : Exec r P E Q s ⟨some d, .nilCheck x, ty, pos, aft, g⟩ K := h
theorem Knd.makeInterface {t : TypeId} {x : Operand} (h : Exec r P E Q s ⟨some d, .makeInterface t x, ty, pos, aft, g⟩ K) : Exec r P E Q s ⟨some d, .makeInterface t x, ty, pos, aft, g⟩ K := h
theorem Knd.panic {x : Operand} {dst : Option Tmp} (h : Exec r P E Q s ⟨dst, .panic x, ty, pos, aft, g⟩ K) : Exec r P E Q s ⟨dst, .panic x, ty, pos, aft, g⟩ K := h
theorem Knd.makeFunc {f : Go.Fn} {xs ys : Array Operand} (h : Exec r P E Q s ⟨some d, .makeFunc f xs ys, ty, pos, aft, g⟩ K) : Exec r P E Q s ⟨some d, .makeFunc f xs ys, ty, pos, aft, g⟩ K := h
end
end Bf

