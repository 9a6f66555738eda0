/-
  Words of 32 bits: operations on UInt32.
  Conditions: none; plain laws over any program.
-/
import Derived.Test.YtghjhdbmkilakaaGreatDoorWBfOpt
namespace Bf
open Go
/-- words as values -/
def wV (l : List UInt32) : List Value := l.map fun w => .int .u32 (w.toNat : Int)
@[simp] theorem wV_length (l : List UInt32) : (wV l).length = l.length := by simp [wV]
theorem wV_get {l : List UInt32} {i : Nat} {x : UInt32} (h : l[i]? = some x) : nthL (wV l) i = some (.int .u32 (x.toNat : Int)) := by rw [nthL_eq]; simp [wV, h]
theorem wV_set (l : List UInt32) (i : Nat) (x : UInt32) : (wV l).set i (.int .u32 (x.toNat : Int)) = wV (l.set i x) := by simp [wV]
theorem w32_in {n : Nat} (h : n < 2 ^ 32) : IntKind.u32.wrap (n : Int) = n := IntWalk.u32_in _ ⟨by omega, by omega⟩
theorem w32_mod (a : Int) : IntKind.u32.wrap a = a % 4294967296 := by simp [IntKind.wrap, IntKind.signed, IntKind.bits]
theorem w32_add (x y : UInt32) : IntKind.u32.wrap ((x.toNat : Int) + (y.toNat : Int)) = ((x + y).toNat : Int) := by
  rw [w32_mod, UInt32.toNat_add]; omega
theorem w32_bv (x : UInt32) : BitVec.ofInt IntKind.u32.bits (x.toNat : Int) = x.toBitVec := by
  show BitVec.ofInt 32 _ = _
  rw [BitVec.ofInt_natCast]
  simp
theorem w32_xor (x y : UInt32) : Go.bits .xor .u32 (x.toNat : Int) (y.toNat : Int) = ((x ^^^ y).toNat : Int) := by
  show IntKind.u32.wrap ((BitVec.ofInt IntKind.u32.bits (x.toNat : Int) ^^^ BitVec.ofInt IntKind.u32.bits (y.toNat : Int)).toNat : Int) = _
  rw [w32_bv, w32_bv]
  exact w32_in (x ^^^ y).toNat_lt
theorem w32_or (x y : UInt32) : Go.bits .or .u32 (x.toNat : Int) (y.toNat : Int) = ((x ||| y).toNat : Int) := by
  show IntKind.u32.wrap ((BitVec.ofInt IntKind.u32.bits (x.toNat : Int) ||| BitVec.ofInt IntKind.u32.bits (y.toNat : Int)).toNat : Int) = _
  rw [w32_bv, w32_bv]
  exact w32_in (x ||| y).toNat_lt
theorem w32_and (x y : UInt32) : Go.bits .and .u32 (x.toNat : Int) (y.toNat : Int) = ((x &&& y).toNat : Int) := by
  show IntKind.u32.wrap ((BitVec.ofInt IntKind.u32.bits (x.toNat : Int) &&& BitVec.ofInt IntKind.u32.bits (y.toNat : Int)).toNat : Int) = _
  rw [w32_bv, w32_bv]
  exact w32_in (x &&& y).toNat_lt
theorem w32_shl (x : UInt32) (n : Nat) (hn : n < 32) : IntKind.u32.wrap ((x.toNat : Int) * 2 ^ n) = ((x <<< UInt32.ofNat n).toNat : Int) := by
  rw [w32_mod, UInt32.toNat_shiftLeft]
  have e : (UInt32.ofNat n).toNat % 32 = n := by simp [UInt32.toNat_ofNat']; omega
  rw [e, Nat.shiftLeft_eq, Int.natCast_emod, Int.natCast_mul, Int.natCast_pow]
  rfl
theorem w32_shr (x : UInt32) (n : Nat) (hn : n < 32) : (x.toNat : Int) / 2 ^ n = ((x >>> UInt32.ofNat n).toNat : Int) := by
  rw [UInt32.toNat_shiftRight]
  have e : (UInt32.ofNat n).toNat % 32 = n := by simp [UInt32.toNat_ofNat']; omega
  rw [e, Nat.shiftRight_eq_div_pow, Int.natCast_ediv, Int.natCast_pow]
  rfl
section
variable {r : Option Nat} {P : Program} {fr : Fr} {M : Mem} {L : List Res}
variable {d : Nat} {ty : TypeId} {pos : String} {aft : Array Edge} {g : Option (Nat × Bool)}
theorem Stab.addw {t u : TypeId} {x y : Operand} {a b : UInt32} (hx : ev fr x = some (.int .u32 (a.toNat : Int))) (hy : ev fr y = some (.int .u32 (b.toNat : Int))) :
    Stab P fr M L ⟨some d, .binOp .add t x y u, ty, pos, aft, g⟩ (.int .u32 ((a + b).toNat : Int)) := Stab.int hx hy (by simp only [intOp]; rw [w32_add])
theorem Stab.xorw {t u : TypeId} {x y : Operand} {a b : UInt32} (hx : ev fr x = some (.int .u32 (a.toNat : Int))) (hy : ev fr y = some (.int .u32 (b.toNat : Int))) :
    Stab P fr M L ⟨some d, .binOp .xor t x y u, ty, pos, aft, g⟩ (.int .u32 ((a ^^^ b).toNat : Int)) := Stab.int hx hy (by simp only [intOp]; rw [w32_xor])
theorem Stab.orw {t u : TypeId} {x y : Operand} {a b : UInt32} (hx : ev fr x = some (.int .u32 (a.toNat : Int))) (hy : ev fr y = some (.int .u32 (b.toNat : Int))) :
    Stab P fr M L ⟨some d, .binOp .or t x y u, ty, pos, aft, g⟩ (.int .u32 ((a ||| b).toNat : Int)) := Stab.int hx hy (by simp only [intOp]; rw [w32_or])
theorem Stab.andw {t u : TypeId} {x y : Operand} {a b : UInt32} (hx : ev fr x = some (.int .u32 (a.toNat : Int))) (hy : ev fr y = some (.int .u32 (b.toNat : Int))) :
    Stab P fr M L ⟨some d, .binOp .and t x y u, ty, pos, aft, g⟩ (.int .u32 ((a &&& b).toNat : Int)) := Stab.int hx hy (by simp only [intOp]; rw [w32_and])
theorem Stab.notw {t : TypeId} {x : Operand} {a : UInt32} (hx : ev fr x = some (.int .u32 (a.toNat : Int))) :
    Stab P fr M L ⟨some d, .unOp .xor t x, ty, pos, aft, g⟩ (.int .u32 ((~~~a).toNat : Int)) := by
  intro n D ac w hf _
  have e1 : (4294967295 : UInt32) ^^^ a = ~~~a := by
    apply UInt32.toBitVec_inj.1
    show BitVec.allOnes 32 ^^^ a.toBitVec = ~~~a.toBitVec
    rw [BitVec.allOnes_xor]
  have e2 := w32_xor 4294967295 a
  rw [e1] at e2
  have e3 : Go.bits .xor .u32 4294967295 (a.toNat : Int) = ((~~~a).toNat : Int) := e2
  have e4 : Op.unary .xor (.int .u32 (a.toNat : Int)) = (pure (.int .u32 (Go.bits .xor .u32 4294967295 (a.toNat : Int))) : Sem Value) := rfl
  simp only [execOp, hf.ev hx]
  rw [e4, e3]
  simp only [Sem.run_bind, Sem.run_pure, Result.andThen_ok]
/-- a shift by a number that is known -/
theorem Stab.shlw {t u : TypeId} {x y : Operand} {k' : IntKind} {a : UInt32} {m : Int} (n : Nat) (hx : ev fr x = some (.int .u32 (a.toNat : Int))) (hy : ev fr y = some (.int k' m)) (hm : m = n) (hn : n < 32) :
    Stab P fr M L ⟨some d, .binOp .shl t x y u, ty, pos, aft, g⟩ (.int .u32 ((a <<< UInt32.ofNat n).toNat : Int)) := by
  subst hm
  have h := Stab.shl (P := P) (M := M) (L := L) (d := d) (ty := ty) (pos := pos) (aft := aft) (g := g) (t := t) (u := u) hx hy (by omega)
  have e : min ((n : Int).toNat) IntKind.u32.bits = n := by show min ((n : Int).toNat) 32 = n; omega
  rw [e, w32_shl _ _ hn] at h
  exact h
theorem Stab.shrw {t u : TypeId} {x y : Operand} {k' : IntKind} {a : UInt32} {m : Int} (n : Nat) (hx : ev fr x = some (.int .u32 (a.toNat : Int))) (hy : ev fr y = some (.int k' m)) (hm : m = n) (hn : n < 32) :
    Stab P fr M L ⟨some d, .binOp .shr t x y u, ty, pos, aft, g⟩ (.int .u32 ((a >>> UInt32.ofNat n).toNat : Int)) := by
  subst hm
  have h := Stab.shr (P := P) (M := M) (L := L) (d := d) (ty := ty) (pos := pos) (aft := aft) (g := g) (t := t) (u := u) hx hy (by omega)
  have e : min ((n : Int).toNat) IntKind.u32.bits = n := by show min ((n : Int).toNat) 32 = n; omega
  have hp' : (0 : Int) ≤ 2 ^ n := Int.pow_nonneg (by decide)
  rw [e, Int.fdiv_eq_ediv_of_nonneg _ hp', w32_shr _ _ hn] at h
  exact h
theorem Stab.byteW {s t : TypeId} {i j : TyI} {x : Operand} {c : UInt8} (hx : ev fr x = some (.int .u8 (c.toNat : Int))) (hS : HasTy P s j) (hT : HasTy P t i) (hs : j.desc = .int .u8) (hd : i.desc = .int .u32) :
    Stab P fr M L ⟨some d, .convert s t x, ty, pos, aft, g⟩ (.int .u32 (c.toUInt32.toNat : Int)) := by
  have h := Stab.conv (P := P) (M := M) (L := L) (d := d) (ty := ty) (pos := pos) (aft := aft) (g := g) hx hS hT hs hd
  have hc := c.toNat_lt
  rw [w32_in (by omega)] at h
  simpa using h
theorem Stab.wByte {s t : TypeId} {i j : TyI} {x : Operand} {c : UInt32} (hx : ev fr x = some (.int .u32 (c.toNat : Int))) (hS : HasTy P s j) (hT : HasTy P t i) (hs : j.desc = .int .u32) (hd : i.desc = .int .u8) :
    Stab P fr M L ⟨some d, .convert s t x, ty, pos, aft, g⟩ (.int .u8 (c.toUInt8.toNat : Int)) := by
  have h := Stab.conv (P := P) (M := M) (L := L) (d := d) (ty := ty) (pos := pos) (aft := aft) (g := g) hx hS hT hs hd
  have e : IntKind.u8.wrap (c.toNat : Int) = (c.toUInt8.toNat : Int) := by
    have : IntKind.u8.wrap (c.toNat : Int) = (c.toNat : Int) % 256 := by simp [IntKind.wrap, IntKind.signed, IntKind.bits]
    rw [this]; simp
  rw [e] at h
  exact h
/-- an element of one cell of an array value -/
theorem Stab.indexV1 {t e : TypeId} {i ei : TyI} {x y : Operand} {cs : List Value} {len : Nat} {k : IntKind} {m : Int} {v : Value} (hx : ev fr x = some (.agg cs.toArray)) (hy : ev fr y = some (.int k m))
    (hT : HasTy P t i) (hd : i.desc = .array len e) (hE : HasTy P e ei) (hs : szOf ei = some 1) (ha : TypeDesc.agg ei.desc = false) (h0 : 0 ≤ m) (h1 : m < len) (hc : cs[m.toNat]? = some v) : Stab P fr M L ⟨some d, .index t x y, ty, pos, aft, g⟩ v := by
  intro n' D ac w hf _
  have hu := hT.1
  rw [hd] at hu
  have hs' := szOf_eq hs
  simp only [execOp, hf.ev hx, hf.ev hy, Instr.index, asIntOf]
  simp only [Sem.run_bind, run_underlying hu, Result.andThen_ok, Sem.run_pure]
  rw [if_pos ⟨h0, h1⟩]
  have hcell : cs.toArray[m.toNat * 1]? = some v := by simpa using hc
  simp [Sem.run_bind, run_sizeOf hE, hs', part, run_isAgg hE.1, ha, hc]
theorem wV_getq {l : List UInt32} {i : Nat} {x : UInt32} (h : l[i]? = some x) : (wV l)[i]? = some (.int .u32 (x.toNat : Int)) := by simp [wV, h]
end
theorem AllOne.words : ∀ (l : List UInt32), AllOne (wV l)
  | [] => .nil
  | _ :: l => .cons rfl (AllOne.words l)
end Bf

