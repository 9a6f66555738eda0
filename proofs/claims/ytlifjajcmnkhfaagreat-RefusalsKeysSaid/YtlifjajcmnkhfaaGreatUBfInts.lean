/-
 Slices of whole numbers and of truth values; what is read from memory that may be the walk's own; and of bits.
 Conditions: none; plain laws over any program.
-/
import Derived.Test.YtlifjajcmnkhfaaGreatUBfNum
import Derived.Test.YtlifjajcmnkhfaaGreatUBfRepB
namespace Bf
open Go
def RI (_ : Mem) (c : List Value) (x : Int) : Prop := c = [.int .i64 x]
theorem RI.mono (M M' : Mem) (c : List Value) (x : Int) (_ : Mem.le M M') (h : RI M c x) : RI M' c x := h
def intV (l : List Int) : List Value := l.map fun x => .int .i64 x
@[simp] theorem intV_length (l : List Int) : (intV l).length = l.length := by simp [intV]
theorem intV_append (l m : List Int) : intV (l ++ m) = intV l ++ intV m := by simp [intV]
theorem intV_set (l : List Int) (i : Nat) (x : Int) : (intV l).set i (.int .i64 x) = intV (l.set i x) := by simp [intV, List.map_set]
theorem intV_get {l : List Int} {i : Nat} {x : Int} (h : l[i]? = some x) : (intV l)[i]? = some (.int .i64 x) := by simp [intV, h]
theorem intV_one (l : List Int) : ∀ u ∈ intV l, u.oneCell' = true := by
 intro u hu
 obtain ⟨x, _, rfl⟩ := List.mem_map.1 hu
 rfl
theorem RI.elems (M : Mem) (l : List Int) : Elems 1 RI M (intV l) l := by
 refine ⟨by simp, fun i x hx => ?_⟩
 show _ = _
 rw [Nat.mul_one, List.take_one, List.head?_drop, intV_get hx]
 rfl
theorem RI.cells {M : Mem} {cells : List Value} {l : List Int} (h : Elems 1 RI M cells l) : cells = intV l := by
 apply List.ext_getElem?
 intro i
 have hl := h.1
 rw [Nat.mul_one] at hl
 by_cases hi : i < l.length
 ·have := h.2 i l[i] (by simp [hi])
  have e : cells[i]? = some (.int .i64 l[i]) := by
   have : (cells.drop (i * 1)).take 1 = [.int .i64 l[i]] := this
   rw [Nat.mul_one, List.take_one, List.head?_drop] at this
   cases hc : cells[i]? with
   | none => rw [hc] at this; cases this
   | some v => rw [hc] at this; simp at this; rw [this]
  rw [e, intV_get (x := l[i]) (by simp [hi])]
 ·rw [List.getElem?_eq_none (by omega), List.getElem?_eq_none (by simp; omega)]
abbrev Ints (M : Mem) (v : Value) (l : List Int) : Prop := SlOf 1 RI M v l
theorem Ints.ofBox {M : Mem} {b t : Nat} {l : List Int} (h : (box b t (intV l)).ok M) (hl : l.length ≤ 9223372036854775807) : Ints M (.slice (some ⟨b, 0, none⟩) l.length l.length) l := SlOf.ofBox h (intV_one _) hl (RI.elems M l)
theorem Ints.ofOwn {M : Mem} {B : Option Addr} {e k n : Nat} {l : List Int} (h : (ownS e 1 B n k (intV l)).ok M) (hn : n = l.length) (hk : k ≤ 9223372036854775807) : Ints M (.slice B l.length k) l := SlOf.ofOwn h hn hk (RI.elems M l)
theorem Ints.row {M : Mem} {A : Option Addr} {n c : Nat} {l : List Int} (h : Ints M (.slice A n c) l) : Row M A l.length 1 (intV l) := by
 obtain ⟨cells, -, -, -, -, hr, he⟩ := h.cells
 exact RI.cells he ▸ hr
theorem Ints.cap {M : Mem} {A : Option Addr} {n c : Nat} {l : List Int} (h : Ints M (.slice A n c) l) : n = l.length ∧ l.length ≤ c ∧ c ≤ 9223372036854775807 ∧ (A = none → l.length = 0) := by
 obtain ⟨cells, h1, h2, h3, h4, -, -⟩ := h.cells
 exact ⟨h1, h2, h3, h4⟩
theorem Ints.at {M : Mem} {A : Option Addr} {n c : Nat} {l : List Int} (h : Ints M (.slice A n c) l) {i : Nat} {x : Int} (hi : l[i]? = some x) : A.isSome = true ∧ At M ((A.getD default).add (i * 1)) [.int .i64 x] := by
 obtain ⟨hA, ch, hat, rfl⟩ := h.elem hi
 exact ⟨hA, hat⟩
def RBo (_ : Mem) (c : List Value) (x : Bool) : Prop := c = [.bool x]
theorem RBo.mono (M M' : Mem) (c : List Value) (x : Bool) (_ : Mem.le M M') (h : RBo M c x) : RBo M' c x := h
abbrev Bools (M : Mem) (v : Value) (l : List Bool) : Prop := SlOf 1 RBo M v l
theorem Bools.at {M : Mem} {A : Option Addr} {n c : Nat} {l : List Bool} (h : Bools M (.slice A n c) l) {i : Nat} {x : Bool} (hi : l[i]? = some x) : A.isSome = true ∧ At M ((A.getD default).add (i * 1)) [.bool x] := by
 obtain ⟨hA, ch, hat, rfl⟩ := h.elem hi
 exact ⟨hA, hat⟩
def RRowB (M : Mem) (c : List Value) (x : List Bool) : Prop := ∃ A k, c = [.slice A x.length k] ∧ Bools M (.slice A x.length k) x
theorem RRowB.mono (M M' : Mem) (c : List Value) (x : List Bool) (hm : Mem.le M M') (h : RRowB M c x) : RRowB M' c x := let ⟨A, k, h1, h2⟩ := h; ⟨A, k, h1, h2.mono RBo.mono hm⟩
def RRowI (M : Mem) (c : List Value) (x : List Int) : Prop := ∃ A k, c = [.slice A x.length k] ∧ Ints M (.slice A x.length k) x
theorem RRowI.mono (M M' : Mem) (c : List Value) (x : List Int) (hm : Mem.le M M') (h : RRowI M c x) : RRowI M' c x := let ⟨A, k, h1, h2⟩ := h; ⟨A, k, h1, h2.mono RI.mono hm⟩
theorem Src.sub {M : Mem} {L L' : List Res} {A : Option Addr} {m : Nat} {news : List Value} (h : Src M L A m news) (hL : ∀ r ∈ L, r ∈ L') : Src M L' A m news := h.imp id fun h w hk => h w ⟨hk.mem, fun r hr => hk.res r (hL r hr)⟩
section
variable {P : Program} {fr : Fr} {M : Mem} {L : List Res} {d : Nat} {ty : TypeId} {pos : String} {aft : Array Edge} {g : Option (Nat × Bool)}
def Cell (M : Mem) (L : List Res) (a : Addr) (v : Value) : Prop := ∀ w, KH M L w → w.cell? a = some v
theorem Stab.loadC {t : TypeId} {i : TyI} {x : Operand} {a : Addr} {A : List Res} {v : Value} (hx : ev fr x = some (.pointer (some a))) (hT : HasTy P t i) (ha : TypeDesc.agg i.desc = false) (hc : Cell M A a v) (hA : ∀ r ∈ A, r ∈ L) :
  Stab P fr M L ⟨some d, .load t x, ty, pos, aft, g⟩ v := by
 intro n D a' w hf hk
 have hc := hc w ⟨hk.mem, fun r hr => hk.res r (hA r hr)⟩
 simp [execOp, Instr.loadAt, Instr.sureAddr, hf.ev hx, loadVar_scalar hT ha hc]
theorem Src.cell {A : Option Addr} {m j : Nat} {news : List Value} {v : Value} (h : Src M L A m news) (hm : 0 < m) (_ : news[j]? = some v) : A.isSome = true ∨ ∀ w, ¬ KH M L w := by
 rcases h with h | h
 ·omega
 ·by_cases hw : ∃ w, KH M L w
  ·obtain ⟨w, hw⟩ := hw
   obtain ⟨a, rfl, _⟩ := h w hw
   exact .inl rfl
  ·exact .inr fun w hk => hw ⟨w, hk⟩
theorem Src.at {a : Addr} {m j : Nat} {news : List Value} {v : Value} (h : Src M L (some a) m news) (hm : 0 < m) (hj : news[j]? = some v) : Cell M L (a.add j) v := fun w hk => by
 rcases h with h | h
 ·omega
 ·obtain ⟨a', ha, hc⟩ := h w hk
  cases ha
  exact hc j v hj
end
theorem and_i64 {x y : Nat} (hx : x < 2 ^ 63) (hy : y < 2 ^ 63) : Go.bits .and .i64 (x : Int) (y : Int) = ((x &&& y : Nat) : Int) := by
 have h1 : (BitVec.ofInt 64 (x : Int)) = BitVec.ofNat 64 x := by simp
 have h2 : (BitVec.ofInt 64 (y : Int)) = BitVec.ofNat 64 y := by simp
 have h3 : (BitVec.ofNat 64 x &&& BitVec.ofNat 64 y).toNat = x &&& y := by
  rw [BitVec.toNat_and, BitVec.toNat_ofNat, BitVec.toNat_ofNat, Nat.mod_eq_of_lt (by omega), Nat.mod_eq_of_lt (by omega)]
 have h4 : x &&& y ≤ x := Nat.and_le_left
 show IntKind.i64.wrap (((BitVec.ofInt 64 (x : Int)) &&& (BitVec.ofInt 64 (y : Int))).toNat : Int) = _
 rw [h1, h2, h3]
 exact IntWalk.i64_in _ (by omega)
section
variable {P : Program} {fr : Fr} {M : Mem} {L : List Res} {d : Nat} {ty : TypeId} {pos : String} {aft : Array Edge} {g : Option (Nat × Bool)}
theorem Stab.shrn {t u : TypeId} {x y : Operand} {a b : Nat} (hx : ev fr x = some (.int .i64 (a : Int))) (hy : ev fr y = some (.int .i64 (b : Int))) (hb : b ≤ 64) :
  Stab P fr M L ⟨some d, .binOp .shr t x y u, ty, pos, aft, g⟩ (.int .i64 ((a >>> b : Nat) : Int)) := by
 have h := Stab.shr (P := P) (M := M) (L := L) (d := d) (ty := ty) (pos := pos) (aft := aft) (g := g) (t := t) (u := u) hx hy (by omega)
 have e : min ((b : Int).toNat) IntKind.i64.bits = b := by show min ((b : Int).toNat) 64 = b; omega
 have hp' : (0 : Int) ≤ 2 ^ b := Int.pow_nonneg (by decide)
 rw [e, Int.fdiv_eq_ediv_of_nonneg _ hp'] at h
 have e2 : (a : Int) / 2 ^ b = ((a >>> b : Nat) : Int) := by rw [Nat.shiftRight_eq_div_pow]; simp
 rw [e2] at h
 exact h
theorem Stab.and1 {t u : TypeId} {x y : Operand} {a : Nat} (hx : ev fr x = some (.int .i64 (a : Int))) (hy : ev fr y = some (.int .i64 1)) (ha : a < 9223372036854775808) :
  Stab P fr M L ⟨some d, .binOp .and t x y u, ty, pos, aft, g⟩ (.int .i64 ((a &&& 1 : Nat) : Int)) := by
 refine Stab.int hx hy ?_
 have := and_i64 (x := a) (y := 1) (by omega) (by decide)
 simp only [intOp]
 exact congrArg some (congrArg (Value.int .i64) this)
theorem Stab.andn {t u : TypeId} {x y : Operand} {a b : Nat} (hx : ev fr x = some (.int .i64 (a : Int))) (hy : ev fr y = some (.int .i64 (b : Int))) (ha : a < 9223372036854775808) (hb : b < 9223372036854775808) :
  Stab P fr M L ⟨some d, .binOp .and t x y u, ty, pos, aft, g⟩ (.int .i64 ((a &&& b : Nat) : Int)) := by
 refine Stab.int hx hy ?_
 simp only [intOp]
 rw [and_i64 (by omega) (by omega)]
theorem Stab.shl1 {t u : TypeId} {x y : Operand} {b : Nat} (hx : ev fr x = some (.int .i64 1)) (hy : ev fr y = some (.int .i64 (b : Int))) (hb : b ≤ 62) :
  Stab P fr M L ⟨some d, .binOp .shl t x y u, ty, pos, aft, g⟩ (.int .i64 ((2 ^ b : Nat) : Int)) := by
 have h := Stab.shl (P := P) (M := M) (L := L) (d := d) (ty := ty) (pos := pos) (aft := aft) (g := g) (t := t) (u := u) hx hy (by omega)
 have e : min ((b : Int).toNat) IntKind.i64.bits = b := by show min ((b : Int).toNat) 64 = b; omega
 have h2 : 2 ^ b ≤ 2 ^ 62 := Nat.pow_le_pow_right (by decide) hb
 have e2 : (1 : Int) * 2 ^ b = ((2 ^ b : Nat) : Int) := by rw [Int.one_mul]; simp
 rw [e, e2] at h
 generalize 2 ^ b = q at h h2 ⊢
 rw [IntWalk.i64_in _ (by omega)] at h
 exact h
end
end Bf

