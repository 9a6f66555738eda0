/-
 The quiet operations of the model, as rules of the small logic: each says what value the operation gives.
 Conditions: none; plain laws over any program.
-/
import Derived.Test.YtlifjajcmnkhfaaGreatUBfCore
import Derived.Laws.Entries
import Derived.Laws.Cells
import Derived.Laws.Rows
import Derived.Laws.Slices
import Derived.Laws.Strings
import Derived.IntWalk
import Derived.Laws.Small
import Derived.Lib.LazyBuf
namespace Bf
open Go

structure TyI where
 desc : TypeDesc
 size : Nat
 bytes : Nat
 zero : Value
def szOf : TyI → Option Nat
 | ⟨_, s, _, _⟩ => some s
theorem szOf_eq {i : TyI} {s : Nat} (h : szOf i = some s) : i.size = s := by cases i; simpa [szOf] using h
def byOf : TyI → Option Nat
 | ⟨_, _, b, _⟩ => some b
theorem byOf_eq {i : TyI} {b : Nat} (h : byOf i = some b) : i.bytes = b := by cases i; simpa [byOf] using h
def zOf : TyI → Option Value
 | ⟨_, _, _, z⟩ => some z
theorem zOf_eq {i : TyI} {z : Value} (h : zOf i = some z) : i.zero = z := by cases i; simpa [zOf] using h
def HasTy (P : Program) (t : TypeId) (i : TyI) : Prop :=
 P.underlying t = some i.desc ∧ ∃ j, P.info? t = some j ∧ j.size = i.size ∧ j.bytes = i.bytes ∧ j.zero = some i.zero
def lookTy : List (Nat × TyI) → Nat → Option TyI
 | [], _ => none
 | (k, v) :: r, j => bif Nat.beq k j then some v else lookTy r j
def TysOk (P : Program) (l : List (Nat × TyI)) : Prop := ∀ p ∈ l, HasTy P p.1 p.2
theorem TysOk.nil (P : Program) : TysOk P [] := fun _ h => by cases h
theorem TysOk.cons {P : Program} {l : List (Nat × TyI)} {t : Nat} {d : TypeDesc} {s b : Nat} {z : Value} (h1 : P.underlying t = some d)
  (h2 : ((P.info? t).map fun i => (i.size, i.bytes, i.zero)) = some (s, b, some z)) (h : TysOk P l) : TysOk P ((t, ⟨d, s, b, z⟩) :: l) := by
 intro p hp
 rcases List.mem_cons.1 hp with rfl | hp
 ·refine ⟨h1, ?_⟩
  cases hi : P.info? t with
  | none => rw [hi] at h2; cases h2
  | some j =>
   rw [hi] at h2
   simp only [Option.map_some, Option.some.injEq, Prod.mk.injEq] at h2
   exact ⟨j, rfl, h2.1, h2.2.1, h2.2.2⟩
 ·exact h p hp
theorem TysOk.get {P : Program} {l : List (Nat × TyI)} (h : TysOk P l) {t : Nat} {i : TyI} (e : lookTy l t = some i) : HasTy P t i := by
 induction l with
 | nil => cases e
 | cons x r ih =>
  obtain ⟨k, v⟩ := x
  unfold lookTy at e
  cases hb : Nat.beq k t with
  | true =>
   rw [hb] at e
   simp only [cond_true, Option.some.injEq] at e
   subst e
   have : k = t := Nat.eq_of_beq_eq_true hb
   subst this
   exact h (k, v) (by simp)
  | false =>
   rw [hb] at e
   exact ih (fun p hp => h p (by simp [hp])) e

def TypeDesc.agg : TypeDesc → Bool
 | .struct _ | .array _ _ => true
 | _ => false

theorem run_isAgg {P : Program} {t : TypeId} {d : TypeDesc} (h : P.underlying t = some d) (w : World) : (isAgg t).run P w = .ok (TypeDesc.agg d) w := by
 unfold isAgg
 rw [Sem.run_bind, run_underlying h w]
 cases d <;> simp [TypeDesc.agg]
theorem run_sizeOf {P : Program} {t : TypeId} {i : TyI} (h : HasTy P t i) (w : World) : (Go.sizeOf t).run P w = .ok i.size w := by
 obtain ⟨_, j, hj, hs, _, _⟩ := h
 simp [Go.sizeOf, typeInfo, hj, hs]
theorem run_zeroValue {P : Program} {t : TypeId} {i : TyI} (h : HasTy P t i) (w : World) : (zeroValue t).run P w = .ok i.zero w := by
 obtain ⟨_, j, hj, _, _, hz⟩ := h
 simp [zeroValue, typeInfo, hj, hz]

def nthL : List Value → Nat → Option Value
 | [], _ => none
 | x :: _, 0 => some x
 | _ :: l, n + 1 => nthL l n
theorem nthL_eq : ∀ (l : List Value) (n : Nat), nthL l n = l[n]?
 | [], _ => by simp [nthL]
 | _ :: _, 0 => by simp [nthL]
 | _ :: l, n + 1 => by simp [nthL, nthL_eq l n]
inductive SetL : List Value → Nat → Value → List Value → Prop
 | z {x v : Value} {l : List Value} : SetL (x :: l) 0 v (v :: l)
 | s {x v : Value} {l l' : List Value} {n : Nat} (h : SetL l n v l') : SetL (x :: l) (n + 1) v (x :: l')
theorem SetL.eq {l l' : List Value} {n : Nat} {v : Value} (h : SetL l n v l') : l' = l.set n v ∧ n < l.length := by
 induction h with
 | z => simp
 | s _ ih => obtain ⟨rfl, h⟩ := ih; simp [h]
inductive TakeL : Nat → List Value → List Value → Prop
 | z {l : List Value} : TakeL 0 l []
 | s {x : Value} {l r : List Value} {n : Nat} (h : TakeL n l r) : TakeL (n + 1) (x :: l) (x :: r)
theorem TakeL.eq {l r : List Value} {n : Nat} (h : TakeL n l r) : r = l.take n ∧ n ≤ l.length := by
 induction h with
 | z => simp
 | s _ ih => obtain ⟨rfl, h⟩ := ih; simp [h]
def dropL : Nat → List Value → List Value
 | 0, l => l
 | _ + 1, [] => []
 | n + 1, _ :: l => dropL n l
theorem dropL_eq : ∀ (n : Nat) (l : List Value), dropL n l = l.drop n
 | 0, l => by simp [dropL]
 | _ + 1, [] => by simp [dropL]
 | n + 1, _ :: l => by simp [dropL, dropL_eq n l]

def box (b : Nat) (t : TypeId) (cs : List Value) : Res := pt b (.cells cs.toArray t (0, 0))
inductive Has : List Res → Res → Prop
 | here {r : Res} {L : List Res} : Has (r :: L) r
 | there {x r : Res} {L : List Res} (h : Has L r) : Has (x :: L) r
theorem Has.mem {L : List Res} {r : Res} (h : Has L r) : r ∈ L := by
 induction h with
 | here => simp
 | there _ ih => simp [ih]

def At (M : Mem) (a : Addr) (cs : List Value) : Prop :=
 a.spot = none ∧ ∃ all t fz, M a.block = some (.cells all t fz) ∧ ∀ j u, cs[j]? = some u → all[a.off + j]? = some u
theorem At.mono {M M' : Mem} {a : Addr} {cs : List Value} (h : At M a cs) (hm : Mem.le M M') : At M' a cs := by
 obtain ⟨h1, all, t, fz, h2, h3⟩ := h
 exact ⟨h1, all, t, fz, hm _ _ h2, h3⟩
theorem At.drop {M : Mem} {a : Addr} {cs : List Value} (h : At M a cs) (k : Nat) : At M (a.add k) (cs.drop k) := by
 obtain ⟨h1, all, t, fz, h2, h3⟩ := h
 refine ⟨by unfold Addr.add; split <;> simp [h1], all, t, fz, by unfold Addr.add; split <;> exact h2, fun j u hj => ?_⟩
 rw [List.getElem?_drop] at hj
 have := h3 _ u hj
 rw [show (a.add k).off + j = a.off + (k + j) from ?_]
 ·exact this
 ·unfold Addr.add; split
  ·omega
  ·simp; omega
theorem At.take {M : Mem} {a : Addr} {cs : List Value} (h : At M a cs) (k : Nat) : At M a (cs.take k) := by
 obtain ⟨h1, all, t, fz, h2, h3⟩ := h
 refine ⟨h1, all, t, fz, h2, fun j u hj => h3 j u ?_⟩
 rw [List.getElem?_take] at hj
 split at hj
 ·exact hj
 ·cases hj
theorem At.tail {M : Mem} {a : Addr} {x : Value} {cs : List Value} (h : At M a (x :: cs)) : At M (a.add 1) cs := by
 simpa using h.drop 1

theorem At.cell {M : Mem} {a : Addr} {cs : List Value} {w : World} (h : At M a cs) (hm : Mem.le M (hp w)) : ∀ j u, cs[j]? = some u → w.cell? (a.add j) = some u := by
 obtain ⟨h1, all, t, fz, h2, h3⟩ := h
 intro j u hj
 have hh := hm _ _ h2
 have := h3 j u hj
 have hadd : a.add j = ⟨a.block, a.off + j, none⟩ := by
  unfold Addr.add
  split
  ·rename_i h0; subst h0; cases a; simp_all
  ·rfl
 rw [hadd, cell_of_row w _ _ _ _ _ hh]
 exact this

theorem box_cell {b t : Nat} {cs : List Value} {w : World} (h : (box b t cs).ok (hp w)) (j : Nat) : w.cell? ⟨b, j, none⟩ = cs[j]? := by
 have : w.heap[b]? = some (.cells cs.toArray t (0, 0)) := h
 rw [cell_of_row w _ _ _ _ _ this]
 simp

section loads
variable {r : Option Nat} {P : Program} {fr : Fr} {M : Mem} {L : List Res}
variable {d : Nat} {ty : TypeId} {pos : String} {aft : Array Edge} {g : Option (Nat × Bool)}

theorem loadVar_scalar {t : TypeId} {i : TyI} (hT : HasTy P t i) (ha : TypeDesc.agg i.desc = false) {a : Addr} {v : Value} {w : World} (hc : w.cell? a = some v) :
  (loadVar t a).run P w = .ok v w := by
 simp [loadVar, run_isAgg hT.1, ha, hc]
theorem loadVar_agg {t : TypeId} {i : TyI} (hT : HasTy P t i) (ha : TypeDesc.agg i.desc = true) {a : Addr} {cs : List Value} {w : World} (hl : cs.length = i.size)
  (hc : ∀ j v, cs[j]? = some v → w.cell? (a.add j) = some v) : (loadVar t a).run P w = .ok (.agg cs.toArray) w := by
 have := run_loadCells_list (P := P) w a cs hc
 rw [hl] at this
 simp [loadVar, run_isAgg hT.1, ha, run_sizeOf hT, this]

theorem Stab.load {t : TypeId} {i : TyI} {x : Operand} {b off : Nat} {t0 : TypeId} {cs : List Value} {v : Value} (hx : ev fr x = some (.pointer (some ⟨b, off, none⟩)))
  (hT : HasTy P t i) (ha : TypeDesc.agg i.desc = false) (hL : Has L (box b t0 cs)) (hv : nthL cs off = some v) :
  Stab P fr M L ⟨some d, .load t x, ty, pos, aft, g⟩ v := by
 intro n D a w hf hk
 have hc : w.cell? ⟨b, off, none⟩ = some v := by rw [box_cell (hk.res _ hL.mem), ← nthL_eq]; exact hv
 simp [execOp, Instr.loadAt, Instr.sureAddr, hf.ev hx, loadVar_scalar hT ha hc]
theorem Stab.loadW {t : TypeId} {i : TyI} {x : Operand} {b : Nat} {t0 : TypeId} {cs : List Value} (hx : ev fr x = some (.pointer (some ⟨b, 0, none⟩)))
  (hT : HasTy P t i) (ha : TypeDesc.agg i.desc = true) (hL : Has L (box b t0 cs)) (hl : cs.length = i.size) :
  Stab P fr M L ⟨some d, .load t x, ty, pos, aft, g⟩ (.agg cs.toArray) := by
 intro n D a w hf hk
 have hc : ∀ j v, cs[j]? = some v → w.cell? ((⟨b, 0, none⟩ : Addr).add j) = some v := fun j v hj => by
  rw [Addr.add_lit, Nat.zero_add, box_cell (hk.res _ hL.mem)]; exact hj
 simp [execOp, Instr.loadAt, Instr.sureAddr, hf.ev hx, loadVar_agg hT ha hl hc]
theorem Stab.loadP {t : TypeId} {i : TyI} {x : Operand} {b off : Nat} {t0 : TypeId} {cs r : List Value} (hx : ev fr x = some (.pointer (some ⟨b, off, none⟩)))
  (hT : HasTy P t i) (ha : TypeDesc.agg i.desc = true) (hL : Has L (box b t0 cs)) (hr : TakeL i.size (dropL off cs) r) :
  Stab P fr M L ⟨some d, .load t x, ty, pos, aft, g⟩ (.agg r.toArray) := by
 intro n D a w hf hk
 obtain ⟨hr1, hr2⟩ := hr.eq
 rw [dropL_eq] at hr1 hr2
 have hc : ∀ j v, r[j]? = some v → w.cell? ((⟨b, off, none⟩ : Addr).add j) = some v := fun j v hj => by
  rw [Addr.add_lit, box_cell (hk.res _ hL.mem)]
  rw [hr1, List.getElem?_take] at hj
  split at hj
  ·rw [List.getElem?_drop] at hj; exact hj
  ·cases hj
 have hl : r.length = i.size := by rw [hr1, List.length_take]; omega
 simp [execOp, Instr.loadAt, Instr.sureAddr, hf.ev hx, loadVar_agg hT ha hl hc]
theorem Stab.loadM {t : TypeId} {i : TyI} {x : Operand} {a : Addr} {v : Value} {cs : List Value} (hx : ev fr x = some (.pointer (some a)))
  (hT : HasTy P t i) (ha : TypeDesc.agg i.desc = false) (hA : At M a (v :: cs)) :
  Stab P fr M L ⟨some d, .load t x, ty, pos, aft, g⟩ v := by
 intro n D a' w hf hk
 have hc : w.cell? a = some v := by
  have := hA.cell hk.mem 0 v (by simp)
  rwa [Addr.add_zero'] at this
 simp [execOp, Instr.loadAt, Instr.sureAddr, hf.ev hx, loadVar_scalar hT ha hc]
theorem Stab.loadMA {t : TypeId} {i : TyI} {x : Operand} {a : Addr} {cs : List Value} (hx : ev fr x = some (.pointer (some a)))
  (hT : HasTy P t i) (ha : TypeDesc.agg i.desc = true) (hA : At M a cs) (hl : cs.length = i.size) :
  Stab P fr M L ⟨some d, .load t x, ty, pos, aft, g⟩ (.agg cs.toArray) := by
 intro n D a' w hf hk
 simp [execOp, Instr.loadAt, Instr.sureAddr, hf.ev hx, loadVar_agg hT ha hl (hA.cell hk.mem)]
end loads

section plain
variable {r : Option Nat} {P : Program} {fr : Fr} {M : Mem} {L : List Res}
variable {d : Nat} {ty : TypeId} {pos : String} {aft : Array Edge} {g : Option (Nat × Bool)}

theorem Stab.move {x : Operand} {v : Value} (h : ev fr x = some v) : Stab P fr M L ⟨some d, .move x, ty, pos, aft, g⟩ v := by
 intro n D a w hf _; simp [execOp, hf.ev h]
theorem Stab.assign {x : Operand} {v : Value} (h : ev fr x = some v) : Stab P fr M L ⟨some d, .assign x, ty, pos, aft, g⟩ v := by
 intro n D a w hf _; simp [execOp, hf.ev h]
theorem Stab.pick_t {c x y : Operand} {v : Value} {b : Bool} (hc : ev fr c = some (.bool b)) (hb : b = true) (h : ev fr x = some v) :
  Stab P fr M L ⟨some d, .pick c x y, ty, pos, aft, g⟩ v := by
 intro n D a w hf _; simp [execOp, hf.ev h, hf.ev hc, asBool, hb]
theorem Stab.pick_f {c x y : Operand} {v : Value} {b : Bool} (hc : ev fr c = some (.bool b)) (hb : b = false) (h : ev fr y = some v) :
  Stab P fr M L ⟨some d, .pick c x y, ty, pos, aft, g⟩ v := by
 intro n D a w hf _; simp [execOp, hf.ev h, hf.ev hc, asBool, hb]

def intOp : BinOp → IntKind → Int → Int → Option Value
 | .add, k, a, b => some (.int k (k.wrap (a + b)))
 | .sub, k, a, b => some (.int k (k.wrap (a - b)))
 | .mul, k, a, b => some (.int k (k.wrap (a * b)))
 | .eql, _, a, b => some (.bool (decide (a = b)))
 | .neq, _, a, b => some (.bool (decide (a ≠ b)))
 | .lss, _, a, b => some (.bool (decide (a < b)))
 | .leq, _, a, b => some (.bool (decide (a ≤ b)))
 | .gtr, _, a, b => some (.bool (decide (b < a)))
 | .geq, _, a, b => some (.bool (decide (b ≤ a)))
 | .and, k, a, b => some (.int k (Go.bits .and k a b))
 | .or, k, a, b => some (.int k (Go.bits .or k a b))
 | .xor, k, a, b => some (.int k (Go.bits .xor k a b))
 | _, _, _, _ => none
theorem int_beq (a b : Int) : (a == b) = decide (a = b) := by
 by_cases h : a = b <;> simp [h]
theorem int_bne (a b : Int) : (a != b) = decide (a ≠ b) := by
 by_cases h : a = b <;> simp [h]
theorem Stab.int {op : BinOp} {t u : TypeId} {x y : Operand} {k : IntKind} {a b : Int} {v : Value} (hx : ev fr x = some (.int k a)) (hy : ev fr y = some (.int k b))
  (hv : intOp op k a b = some v) : Stab P fr M L ⟨some d, .binOp op t x y u, ty, pos, aft, g⟩ v := by
 intro n D ac w hf _
 cases op <;> simp only [intOp, Option.some.injEq] at hv <;> first | (cases hv; done) | subst hv
 all_goals
  simp only [execOp, hf.ev hx, hf.ev hy]
  first
   | (simp [go_sem, Op.intArith, int_beq, int_bne]; done)
   | (simp [binOp, eqGuard, Op.intBits]; done)
theorem Stab.addi {t u : TypeId} {x y : Operand} {a b : Int} (hx : ev fr x = some (.int .i64 a)) (hy : ev fr y = some (.int .i64 b))
  (h : -9223372036854775808 ≤ a + b ∧ a + b ≤ 9223372036854775807) : Stab P fr M L ⟨some d, .binOp .add t x y u, ty, pos, aft, g⟩ (.int .i64 (a + b)) := by
 refine Stab.int hx hy ?_
 simp only [intOp]
 rw [IntWalk.i64_in _ h]
theorem Stab.subi {t u : TypeId} {x y : Operand} {a b : Int} (hx : ev fr x = some (.int .i64 a)) (hy : ev fr y = some (.int .i64 b))
  (h : -9223372036854775808 ≤ a - b ∧ a - b ≤ 9223372036854775807) : Stab P fr M L ⟨some d, .binOp .sub t x y u, ty, pos, aft, g⟩ (.int .i64 (a - b)) := by
 refine Stab.int hx hy ?_
 simp only [intOp]
 rw [IntWalk.i64_in _ h]
theorem bool_beq (a b : Bool) : (a == b) = decide (a = b) := by cases a <;> cases b <;> rfl
theorem Stab.booleq {t u : TypeId} {i : TyI} {x y : Operand} {a b : Bool} (hx : ev fr x = some (.bool a)) (hy : ev fr y = some (.bool b)) (hT : HasTy P t i) (hd : i.desc = .bool) :
  Stab P fr M L ⟨some d, .binOp .eql t x y u, ty, pos, aft, g⟩ (.bool (decide (a = b))) := by
 intro n D ac w hf _
 have hu := hT.1
 rw [hd] at hu
 simp [execOp, hf.ev hx, hf.ev hy, eqGuard, run_eql_bool w t a b hu, bool_beq]
theorem Stab.boolne {t u : TypeId} {i : TyI} {x y : Operand} {a b : Bool} (hx : ev fr x = some (.bool a)) (hy : ev fr y = some (.bool b)) (hT : HasTy P t i) (hd : i.desc = .bool) :
  Stab P fr M L ⟨some d, .binOp .neq t x y u, ty, pos, aft, g⟩ (.bool (decide (¬ a = b))) := by
 intro n D ac w hf _
 have hu := hT.1
 rw [hd] at hu
 simp [execOp, hf.ev hx, hf.ev hy, eqGuard, binOp, run_equal_bool w t a b hu, bool_beq]
theorem Stab.not {t : TypeId} {x : Operand} {b : Bool} (hx : ev fr x = some (.bool b)) :
  Stab P fr M L ⟨some d, .unOp .not t x, ty, pos, aft, g⟩ (.bool (!b)) := by
 intro n D ac w hf _; simp [execOp, hf.ev hx, Op.unary]
theorem Stab.notd {t : TypeId} {x : Operand} {p : Prop} [Decidable p] (hx : ev fr x = some (.bool (decide p))) :
  Stab P fr M L ⟨some d, .unOp .not t x, ty, pos, aft, g⟩ (.bool (decide (¬ p))) := by
 have := Stab.not (P := P) (M := M) (L := L) (d := d) (ty := ty) (pos := pos) (aft := aft) (g := g) (t := t) hx
 simpa using this
theorem Stab.neg {t : TypeId} {x : Operand} {a : Int} (hx : ev fr x = some (.int .i64 a)) (h : -9223372036854775807 ≤ a ∧ a ≤ 9223372036854775808) :
  Stab P fr M L ⟨some d, .unOp .neg t x, ty, pos, aft, g⟩ (.int .i64 (-a)) := by
 intro n D ac w hf _
 have := IntWalk.i64_in (0 - a) (by omega)
 simp only [Int.zero_sub] at this
 simp [execOp, hf.ev hx, Op.unary, Op.intArith, this]
theorem Stab.len {t : TypeId} {i : TyI} {x : Operand} {A : Option Addr} {n c : Nat} (hx : ev fr x = some (.slice A n c)) (hT : HasTy P t i) (hd : (match i.desc with | .slice _ => true | _ => false) = true) :
  Stab P fr M L ⟨some d, .call { callee := .builtin .len, args := #[x], argTypes := #[t] }, ty, pos, aft, g⟩ (.int .i64 (n : Int)) := by
 intro n' D ac w hf _
 have hu := hT.1
 split at hd <;> first | (cases hd; done) | skip
 rename_i e he
 rw [he] at hu
 simp [execOp, resolve, invoke, builtin, hf.ev hx, Builtin.len_, run_underlying hu, goInt]
theorem Stab.lens {t : TypeId} {i : TyI} {x : Operand} {s : ByteArray} (hx : ev fr x = some (.string s)) (hT : HasTy P t i) (hd : (match i.desc with | .string => true | _ => false) = true) :
  Stab P fr M L ⟨some d, .call { callee := .builtin .len, args := #[x], argTypes := #[t] }, ty, pos, aft, g⟩ (.int .i64 (s.data.toList.length : Int)) := by
 intro n' D ac w hf _
 have hu := hT.1
 split at hd <;> first | (cases hd; done) | skip
 rename_i he
 rw [he] at hu
 have hsz : s.data.toList.length = s.size := rfl
 rw [hsz]
 simp [execOp, resolve, invoke, builtin, hf.ev hx, Builtin.len_, run_underlying hu, goInt]
theorem Stab.cap {t : TypeId} {i : TyI} {x : Operand} {A : Option Addr} {n c : Nat} (hx : ev fr x = some (.slice A n c)) (hT : HasTy P t i) (hd : (match i.desc with | .slice _ => true | _ => false) = true) :
  Stab P fr M L ⟨some d, .call { callee := .builtin .cap, args := #[x], argTypes := #[t] }, ty, pos, aft, g⟩ (.int .i64 (c : Int)) := by
 intro n' D ac w hf _
 have hu := hT.1
 split at hd <;> first | (cases hd; done) | skip
 rename_i e he
 rw [he] at hu
 simp [execOp, resolve, invoke, builtin, hf.ev hx, Builtin.cap_, run_underlying hu, goInt]
theorem Stab.extract {x : Operand} {vs : List Value} {k : Nat} {v : Value} (hx : ev fr x = some (.tuple vs.toArray)) (hv : nthL vs k = some v) :
  Stab P fr M L ⟨some d, .extract x k, ty, pos, aft, g⟩ v := by
 intro n' D ac w hf _
 have hv' : vs[k]? = some v := by rw [← nthL_eq]; exact hv
 simp [execOp, hf.ev hx, Instr.extract, hv']
theorem Stab.conv {s t : TypeId} {i j : TyI} {x : Operand} {k k' : IntKind} {m : Int} (hx : ev fr x = some (.int k' m)) (hS : HasTy P s j) (hT : HasTy P t i) (hs : j.desc = .int k') (hd : i.desc = .int k) :
  Stab P fr M L ⟨some d, .convert s t x, ty, pos, aft, g⟩ (.int k (k.wrap m)) := by
 intro n' D ac w hf _
 have hu := hT.1
 have hu' := hS.1
 rw [hd] at hu
 rw [hs] at hu'
 simp [execOp, hf.ev hx, convert, run_underlying hu, run_underlying hu', Conv.intToInt]
theorem Stab.fieldAddr {t : TypeId} {i : TyI} {x : Operand} {a : Addr} {k : Nat} {fs : Array Field} {f : Field} {fi : TyI} (hx : ev fr x = some (.pointer (some a)))
  (hT : HasTy P t i) (hd : i.desc = .struct fs) (hf : fs[k]? = some f) (hF : HasTy P f.type fi) (hs : Nat.blt 0 fi.size = true) :
  Stab P fr M L ⟨some d, .fieldAddr t x k, ty, pos, aft, g⟩ (.pointer (some (a.add f.offset))) := by
 intro n' D ac w hfi _
 have hu := hT.1
 rw [hd] at hu
 have hne : fi.size ≠ 0 := by have := Nat.blt_eq.mp hs; omega
 simp [execOp, hfi.ev hx, Instr.fieldAt, run_underlying hu, hf, Instr.sureAddr, fieldPlace, run_sizeOf hF, hne]
def fieldAt : List Field → Nat → Option (Nat × Nat)
 | [], _ => none
 | ⟨_, ty, off, _, _, _, _⟩ :: _, 0 => some (off, ty)
 | _ :: l, n + 1 => fieldAt l n
theorem fieldAt_eq : ∀ {l : List Field} {n o t : Nat}, fieldAt l n = some (o, t) → ∃ f, l[n]? = some f ∧ f.offset = o ∧ f.type = t
 | [], _, _, _, h => by cases h
 | ⟨a, ty, off, b, c, d, e⟩ :: _, 0, o, t, h => by
  simp only [fieldAt, Option.some.injEq, Prod.mk.injEq] at h
  exact ⟨_, rfl, h.1, h.2⟩
 | _ :: l, n + 1, o, t, h => by
  obtain ⟨f, h1, h2⟩ := fieldAt_eq (l := l) (n := n) h
  exact ⟨f, by simpa using h1, h2⟩
theorem Stab.fieldZ {t : TypeId} {i : TyI} {x : Operand} {b k o ft : Nat} {fs : List Field} {fi : TyI} (hx : ev fr x = some (.pointer (some ⟨b, 0, none⟩)))
  (hT : HasTy P t i) (hd : i.desc = .struct fs.toArray) (hf : fieldAt fs k = some (o, ft)) (hF : HasTy P ft fi) (hs : Nat.blt 0 fi.size = true) :
  Stab P fr M L ⟨some d, .fieldAddr t x k, ty, pos, aft, g⟩ (.pointer (some ⟨b, o, none⟩)) := by
 obtain ⟨f, h1, rfl, rfl⟩ := fieldAt_eq hf
 have := Stab.fieldAddr (P := P) (M := M) (L := L) (d := d) (ty := ty) (pos := pos) (aft := aft) (g := g) (k := k) hx hT hd (by simpa using h1) hF hs
 rw [Addr.add_lit, Nat.zero_add] at this
 exact this
theorem Stab.fieldN {t : TypeId} {i : TyI} {x : Operand} {b off k o ft : Nat} {fs : List Field} {fi : TyI} (hx : ev fr x = some (.pointer (some ⟨b, off, none⟩)))
  (hT : HasTy P t i) (hd : i.desc = .struct fs.toArray) (hf : fieldAt fs k = some (o, ft)) (hF : HasTy P ft fi) (hs : Nat.blt 0 fi.size = true) :
  Stab P fr M L ⟨some d, .fieldAddr t x k, ty, pos, aft, g⟩ (.pointer (some ⟨b, off + o, none⟩)) := by
 obtain ⟨f, h1, rfl, rfl⟩ := fieldAt_eq hf
 have := Stab.fieldAddr (P := P) (M := M) (L := L) (d := d) (ty := ty) (pos := pos) (aft := aft) (g := g) (k := k) hx hT hd (by simpa using h1) hF hs
 rw [Addr.add_lit] at this
 exact this
theorem Stab.fieldD {t : TypeId} {i : TyI} {x : Operand} {a : Addr} {k o ft : Nat} {fs : List Field} {fi : TyI} (hx : ev fr x = some (.pointer (some a)))
  (hT : HasTy P t i) (hd : i.desc = .struct fs.toArray) (hf : fieldAt fs k = some (o, ft)) (hF : HasTy P ft fi) (hs : Nat.blt 0 fi.size = true) :
  Stab P fr M L ⟨some d, .fieldAddr t x k, ty, pos, aft, g⟩ (.pointer (some (a.add o))) := by
 obtain ⟨f, h1, rfl, rfl⟩ := fieldAt_eq hf
 exact Stab.fieldAddr (P := P) (M := M) (L := L) (d := d) (ty := ty) (pos := pos) (aft := aft) (g := g) (k := k) hx hT hd (by simpa using h1) hF hs
theorem Stab.field {t : TypeId} {i : TyI} {x : Operand} {k o ft : Nat} {cs : List Value} {fs : List Field} {fi : TyI} {v : Value} (hx : ev fr x = some (.agg cs.toArray))
  (hT : HasTy P t i) (hd : i.desc = .struct fs.toArray) (hf : fieldAt fs k = some (o, ft)) (hF : HasTy P ft fi) (ha : TypeDesc.agg fi.desc = false) (hv : nthL cs o = some v) :
  Stab P fr M L ⟨some d, .field t x k, ty, pos, aft, g⟩ v := by
 obtain ⟨f, hq, rfl, rfl⟩ := fieldAt_eq hf
 clear hf
 have hf := hq
 intro n' D ac w hfi _
 have hu := hT.1
 rw [hd] at hu
 have hv' : cs[f.offset]? = some v := by rw [← nthL_eq]; exact hv
 simp [execOp, hfi.ev hx, Instr.field, run_underlying hu, hf, asAgg, part, run_isAgg hF.1, ha, hv']
theorem Stab.indexAddr {t e : TypeId} {i ei : TyI} {sz : Nat} {x y : Operand} {A : Option Addr} {n c : Nat} {k : IntKind} {m : Int} (hx : ev fr x = some (.slice A n c)) (hy : ev fr y = some (.int k m))
  (hT : HasTy P t i) (hd : i.desc = .slice e) (hE : HasTy P e ei) (hsz : szOf ei = some sz) (h0 : 0 ≤ m) (h1 : m < n) (hA : A.isSome = true) :
  Stab P fr M L ⟨some d, .indexAddr t x y, ty, pos, aft, g⟩ (.pointer (some ((A.getD default).add (m.toNat * sz)))) := by
 obtain rfl := szOf_eq hsz
 intro n' D ac w hf _
 have hu := hT.1
 rw [hd] at hu
 cases A with
 | none => cases hA
 | some a => simp [execOp, hf.ev hx, hf.ev hy, Instr.indexAt, asIntOf, run_underlying hu, h0, h1, run_sizeOf hE]
theorem Stab.indexB0 {t e : TypeId} {i ei : TyI} {x y : Operand} {b : Nat} {n c : Nat} {k : IntKind} {m : Int} (hx : ev fr x = some (.slice (some ⟨b, 0, none⟩) n c)) (hy : ev fr y = some (.int k m))
  (hT : HasTy P t i) (hd : i.desc = .slice e) (hE : HasTy P e ei) (hsz : szOf ei = some 1) (h0 : 0 ≤ m) (h1 : m < n) :
  Stab P fr M L ⟨some d, .indexAddr t x y, ty, pos, aft, g⟩ (.pointer (some ⟨b, m.toNat, none⟩)) := by
 have := Stab.indexAddr (P := P) (M := M) (L := L) (d := d) (ty := ty) (pos := pos) (aft := aft) (g := g) hx hy hT hd hE hsz h0 h1 rfl
 simpa [Addr.add_lit] using this
theorem Stab.slnil {t u e : TypeId} {i : TyI} {x : Operand} {A : Option Addr} {n c : Nat} (hx : ev fr x = some (.slice A n c)) (hT : HasTy P t i) (hd : i.desc = .slice e) :
  Stab P fr M L ⟨some d, .binOp .eql t x (.const (.slice none 0 0)) u, ty, pos, aft, g⟩ (.bool (decide (A = none))) := by
 intro n' D ac w hf _
 have hu := hT.1
 rw [hd] at hu
 have hr := run_eql_slice_nil w t e A n c hu
 have hb : A.isNone = decide (A = none) := by cases A <;> simp
 rw [← hb]
 have hc : ac.eval (.const (.slice none 0 0)) = .slice none 0 0 := rfl
 simp only [execOp, hf.ev hx, hc, Sem.run_bind, eqGuard_at_slice, Sem.run_pure, Result.andThen_ok, hr]
theorem Stab.indexArr {t e : TypeId} {i ei : TyI} {sz : Nat} {x y : Operand} {a : Addr} {len : Nat} {k : IntKind} {m : Int} (hx : ev fr x = some (.pointer (some a))) (hy : ev fr y = some (.int k m))
  (hT : HasTy P t i) (hd : i.desc = .array len e) (hE : HasTy P e ei) (hsz : szOf ei = some sz) (h0 : 0 ≤ m) (h1 : m < len) :
  Stab P fr M L ⟨some d, .indexAddr t x y, ty, pos, aft, g⟩ (.pointer (some (a.add (m.toNat * sz)))) := by
 obtain rfl := szOf_eq hsz
 intro n' D ac w hf _
 have hu := hT.1
 rw [hd] at hu
 simp [execOp, hf.ev hx, hf.ev hy, Instr.indexAt, asIntOf, run_underlying hu, h0, h1, run_sizeOf hE, Instr.sureAddr]
theorem sliceVal {t e : TypeId} {i ei : TyI} {A : Option Addr} {n c : Nat} (hT : HasTy P t i) (hd : i.desc = .slice e) (hE : HasTy P e ei) (lo hi mx : Option Value) (w : World)
  (l h m : Nat) (hb : (Instr.sliceBounds true n c lo hi mx).run P w = .ok (l, h, m) w) :
  (Instr.sliceAt t (.slice A n c) lo hi mx).run P w = .ok (.slice (if m = l then A else A.map (·.add (l * ei.size))) (h - l) (m - l)) w := by
 have hu := hT.1
 rw [hd] at hu
 simp [Instr.sliceAt, Instr.slice, run_underlying hu, hb, run_sizeOf hE]
theorem Stab.slice_lh {t e : TypeId} {i ei : TyI} {sz : Nat} {x lo hi : Operand} {A : Option Addr} {n c : Nat} {kl kh : IntKind} {l h : Int} (hx : ev fr x = some (.slice A n c)) (hl : ev fr lo = some (.int kl l)) (hh : ev fr hi = some (.int kh h))
  (hT : HasTy P t i) (hd : i.desc = .slice e) (hE : HasTy P e ei) (hsz : szOf ei = some sz) (h0 : 0 ≤ l) (h1 : l ≤ h) (h2 : h ≤ c) :
  Stab P fr M L ⟨some d, .slice t x (some lo) (some hi) none, ty, pos, aft, g⟩ (.slice (if c = l.toNat then A else A.map (·.add (l.toNat * sz))) (h.toNat - l.toNat) (c - l.toNat)) := by
 obtain rfl := szOf_eq hsz
 intro n' D ac w hf _
 have hb : (Instr.sliceBounds true n c (some (.int kl l)) (some (.int kh h)) none).run P w = .ok (l.toNat, h.toNat, c) w := by
  obtain ⟨l, rfl⟩ := Int.eq_ofNat_of_zero_le h0
  obtain ⟨h, rfl⟩ := Int.eq_ofNat_of_zero_le (show 0 ≤ h by omega)
  have e1 : l ≤ h := by omega
  have e2 : h ≤ c := by omega
  simp [Instr.sliceBounds, Instr.sliceBound, asIntOf, e1, e2]
 simp [execOp, hf.ev hx, hf.ev hl, hf.ev hh, sliceVal hT hd hE _ _ _ w _ _ _ hb]
theorem Stab.slice_h {t e : TypeId} {i ei : TyI} {x hi : Operand} {A : Option Addr} {n c : Nat} {kh : IntKind} {h : Int} (hx : ev fr x = some (.slice A n c)) (hh : ev fr hi = some (.int kh h))
  (hT : HasTy P t i) (hd : i.desc = .slice e) (hE : HasTy P e ei) (h1 : 0 ≤ h) (h2 : h ≤ c) :
  Stab P fr M L ⟨some d, .slice t x none (some hi) none, ty, pos, aft, g⟩ (.slice A h.toNat c) := by
 intro n' D ac w hf _
 have hb : (Instr.sliceBounds true n c none (some (.int kh h)) none).run P w = .ok (0, h.toNat, c) w := by
  simp [Instr.sliceBounds, Instr.sliceBound, asIntOf, h1, h2]
 have := sliceVal (A := A) hT hd hE _ _ _ w _ _ _ hb
 have e : (if c = 0 then A else A.map (·.add (0 * ei.size))) = A := by
  split
  ·rfl
  ·cases A <;> simp [go_sem]
 rw [e] at this
 simp [execOp, hf.ev hx, hf.ev hh, this]
theorem Stab.slice_l {t e : TypeId} {i ei : TyI} {sz : Nat} {x lo : Operand} {A : Option Addr} {n c : Nat} {kl : IntKind} {l : Int} (hx : ev fr x = some (.slice A n c)) (hl : ev fr lo = some (.int kl l))
  (hT : HasTy P t i) (hd : i.desc = .slice e) (hE : HasTy P e ei) (hsz : szOf ei = some sz) (h0 : 0 ≤ l) (h1 : l ≤ n) :
  Stab P fr M L ⟨some d, .slice t x (some lo) none none, ty, pos, aft, g⟩ (.slice (if c = l.toNat then A else A.map (·.add (l.toNat * sz))) (n - l.toNat) (c - l.toNat)) := by
 obtain rfl := szOf_eq hsz
 intro n' D ac w hf _
 have hb : (Instr.sliceBounds true n c (some (.int kl l)) none none).run P w = .ok (l.toNat, n, c) w := by
  simp [Instr.sliceBounds, Instr.sliceBound, asIntOf, h0, h1]
 simp [execOp, hf.ev hx, hf.ev hl, sliceVal hT hd hE _ _ _ w _ _ _ hb]
theorem Stab.slice_lhm {t e : TypeId} {i ei : TyI} {sz : Nat} {x lo hi mx : Operand} {A : Option Addr} {n c : Nat} {kl kh km : IntKind} {l h m : Int} (hx : ev fr x = some (.slice A n c)) (hl : ev fr lo = some (.int kl l)) (hh : ev fr hi = some (.int kh h)) (hm : ev fr mx = some (.int km m))
  (hT : HasTy P t i) (hd : i.desc = .slice e) (hE : HasTy P e ei) (hsz : szOf ei = some sz) (h0 : 0 ≤ l) (h1 : l ≤ h) (h2 : h ≤ m) (h3 : m ≤ c) :
  Stab P fr M L ⟨some d, .slice t x (some lo) (some hi) (some mx), ty, pos, aft, g⟩ (.slice (if m.toNat = l.toNat then A else A.map (·.add (l.toNat * sz))) (h.toNat - l.toNat) (m.toNat - l.toNat)) := by
 obtain rfl := szOf_eq hsz
 intro n' D ac w hf _
 have hb : (Instr.sliceBounds true n c (some (.int kl l)) (some (.int kh h)) (some (.int km m))).run P w = .ok (l.toNat, h.toNat, m.toNat) w := by
  obtain ⟨l, rfl⟩ := Int.eq_ofNat_of_zero_le h0
  obtain ⟨h, rfl⟩ := Int.eq_ofNat_of_zero_le (show 0 ≤ h by omega)
  obtain ⟨m, rfl⟩ := Int.eq_ofNat_of_zero_le (show 0 ≤ m by omega)
  have e1 : l ≤ h := by omega
  have e2 : h ≤ m := by omega
  have e3 : m ≤ c := by omega
  simp [Instr.sliceBounds, Instr.sliceBound, asIntOf, e1, e2, e3]
 simp [execOp, hf.ev hx, hf.ev hl, hf.ev hh, hf.ev hm, sliceVal hT hd hE _ _ _ w _ _ _ hb]
end plain
end Bf

