/-
 The rules once more, in the forms that the walks use.
 Conditions: none; plain laws over any program.
-/
import Derived.Test.YtlifjajcmnkhfaaGreatUBfCall
namespace Bf
open Go

section
variable {r : Option Nat} {P : Program} {E : World} {Q : Exit → Act → World → Prop} {s : S} {X : Act → World → Prop}
theorem Tr.next (h : Tr E s X) : Tr E s (Exit.then X Q .normal) := h
theorem Tr.then_exit {id : Nat} (h : Tr E s (Q (.exit id))) : Tr E s (Exit.then X Q (.exit id)) := h
theorem Tr.then_ret (h : Tr E s (Q .ret)) : Tr E s (Exit.then X Q .ret) := h
theorem Tr.in_ret {id : Nat} (h : Tr E s (Q .ret)) : Tr E s (Exit.inBlock id Q .ret) := h
theorem Tr.in_normal {id : Nat} (h : Tr E s (Q .normal)) : Tr E s (Exit.inBlock id Q .normal) := h
theorem Tr.in_exit {id j : Nat} (hb : Nat.beq j id = true) (h : Tr E s (Q .normal)) : Tr E s (Exit.inBlock id Q (.exit j)) := by
 have : j = id := Nat.eq_of_beq_eq_true hb
 subst this
 intro a w hs
 have := h a w hs
 simp only [Exit.inBlock, if_true]
 exact this
theorem Tr.in_exit' {id j : Nat} (hb : Nat.beq j id = false) (h : Tr E s (Q (.exit j))) : Tr E s (Exit.inBlock id Q (.exit j)) := by
 have hne : j ≠ id := fun e => by subst e; simp at hb
 intro a w hs
 have := h a w hs
 simp only [Exit.inBlock, hne, if_false]
 exact this
theorem Tr.cond_t {c : Operand} {x y : Code} {p : Prop} [Decidable p] (hc : ev s.fr c = some (.bool (decide p))) (hp : p) (ht : Tr E s (x.wpIn (rf r) 0 P Q)) : Tr E s ((Code.cond c x y).wpIn (rf r) 0 P Q) :=
 Tr.condd hc (fun _ => ht) (fun h => absurd hp h)
theorem Tr.cond_f {c : Operand} {x y : Code} {p : Prop} [Decidable p] (hc : ev s.fr c = some (.bool (decide p))) (hp : ¬ p) (ht : Tr E s (y.wpIn (rf r) 0 P Q)) : Tr E s ((Code.cond c x y).wpIn (rf r) 0 P Q) :=
 Tr.condd hc (fun h => absurd h hp) (fun _ => ht)
theorem Tr.cond_bt {c : Operand} {x y : Code} {b : Bool} (hc : ev s.fr c = some (.bool b)) (hp : b = true) (ht : Tr E s (x.wpIn (rf r) 0 P Q)) : Tr E s ((Code.cond c x y).wpIn (rf r) 0 P Q) :=
 Tr.cond hc (fun _ => ht) (fun h => by rw [hp] at h; cases h)
theorem Tr.cond_bf {c : Operand} {x y : Code} {b : Bool} (hc : ev s.fr c = some (.bool b)) (hp : b = false) (ht : Tr E s (y.wpIn (rf r) 0 P Q)) : Tr E s ((Code.cond c x y).wpIn (rf r) 0 P Q) :=
 Tr.cond hc (fun h => by rw [hp] at h; cases h) (fun _ => ht)
variable {n : Nat} {fr : Fr} {D : List Deferred} {M : Mem} {L : List Res}
theorem Tr.guard {ops : Array Oper} {o : Oper} {rest : List Oper} {j t d : Nat} {b c : Bool} (hg : o.guard = some (j, b)) (hj : (ops[j]?).bind (·.dst) = some t)
  (hl : look fr t = some (.bool c)) (hd : o.dst = some d) (hn : Nat.blt d n = true)
  (hyes : c = b → Exec r P E Q ⟨n, fr, D, M, L⟩ o fun s' => Tr E s' (wpListIn (rf r) 0 P ops Q rest)) (hno : c ≠ b → Tr E ⟨n, (d, undef) :: fr, D, M, L⟩ (wpListIn (rf r) 0 P ops Q rest)) :
  Tr E ⟨n, fr, D, M, L⟩ (wpListIn (rf r) 0 P ops Q (o :: rest)) := by
 by_cases h : c = b
 ·exact Tr.stepg hg hj hl h (hyes h)
 ·exact Tr.skipg hg hj hl (by simpa using h) hd hn (hno h)
theorem Tr.guard_l {ops : Array Oper} {o : Oper} {rest : List Oper} {j t : Nat} {b c : Bool} (hg : o.guard = some (j, b)) (hj : (ops[j]?).bind (·.dst) = some t)
  (hl : look fr t = some (.bool c)) (hc : c = b) (h : Exec r P E Q ⟨n, fr, D, M, L⟩ o fun s' => Tr E s' (wpListIn (rf r) 0 P ops Q rest)) : Tr E ⟨n, fr, D, M, L⟩ (wpListIn (rf r) 0 P ops Q (o :: rest)) := Tr.stepg hg hj hl hc h
theorem Tr.guard_s0 {ops : Array Oper} {o : Oper} {rest : List Oper} {j t d : Nat} {c : Bool} (hg : o.guard = some (j, false)) (hj : (ops[j]?).bind (·.dst) = some t)
  (hl : look fr t = some (.bool c)) (hc : c = true) (hd : o.dst = some d) (hn : Nat.blt d n = true) (h : Tr E ⟨n, (d, undef) :: fr, D, M, L⟩ (wpListIn (rf r) 0 P ops Q rest)) : Tr E ⟨n, fr, D, M, L⟩ (wpListIn (rf r) 0 P ops Q (o :: rest)) :=
 Tr.skipg hg hj hl (by subst hc; rfl) hd hn h
theorem Tr.guard_s1 {ops : Array Oper} {o : Oper} {rest : List Oper} {j t d : Nat} {c : Bool} (hg : o.guard = some (j, true)) (hj : (ops[j]?).bind (·.dst) = some t)
  (hl : look fr t = some (.bool c)) (hc : c = false) (hd : o.dst = some d) (hn : Nat.blt d n = true) (h : Tr E ⟨n, (d, undef) :: fr, D, M, L⟩ (wpListIn (rf r) 0 P ops Q rest)) : Tr E ⟨n, fr, D, M, L⟩ (wpListIn (rf r) 0 P ops Q (o :: rest)) :=
 Tr.skipg hg hj hl (by subst hc; rfl) hd hn h
theorem Tr.guard_y {ops : Array Oper} {o : Oper} {rest : List Oper} {j t : Nat} {p : Prop} [Decidable p] (hg : o.guard = some (j, true)) (hj : (ops[j]?).bind (·.dst) = some t)
  (hl : look fr t = some (.bool (decide p))) (hp : p) (h : Exec r P E Q ⟨n, fr, D, M, L⟩ o fun s' => Tr E s' (wpListIn (rf r) 0 P ops Q rest)) : Tr E ⟨n, fr, D, M, L⟩ (wpListIn (rf r) 0 P ops Q (o :: rest)) :=
 Tr.stepg hg hj hl (decide_eq_true hp) h
theorem Tr.guard_y' {ops : Array Oper} {o : Oper} {rest : List Oper} {j t : Nat} {p : Prop} [Decidable p] (hg : o.guard = some (j, false)) (hj : (ops[j]?).bind (·.dst) = some t)
  (hl : look fr t = some (.bool (decide p))) (hp : ¬ p) (h : Exec r P E Q ⟨n, fr, D, M, L⟩ o fun s' => Tr E s' (wpListIn (rf r) 0 P ops Q rest)) : Tr E ⟨n, fr, D, M, L⟩ (wpListIn (rf r) 0 P ops Q (o :: rest)) :=
 Tr.stepg hg hj hl (decide_eq_false hp) h
theorem Tr.guard_n {ops : Array Oper} {o : Oper} {rest : List Oper} {j t d : Nat} {p : Prop} [Decidable p] (hg : o.guard = some (j, true)) (hj : (ops[j]?).bind (·.dst) = some t)
  (hl : look fr t = some (.bool (decide p))) (hp : ¬ p) (hd : o.dst = some d) (hn : Nat.blt d n = true) (h : Tr E ⟨n, (d, undef) :: fr, D, M, L⟩ (wpListIn (rf r) 0 P ops Q rest)) : Tr E ⟨n, fr, D, M, L⟩ (wpListIn (rf r) 0 P ops Q (o :: rest)) :=
 Tr.skipg hg hj hl (by rw [decide_eq_false hp]; rfl) hd hn h
theorem Tr.guard_n' {ops : Array Oper} {o : Oper} {rest : List Oper} {j t d : Nat} {p : Prop} [Decidable p] (hg : o.guard = some (j, false)) (hj : (ops[j]?).bind (·.dst) = some t)
  (hl : look fr t = some (.bool (decide p))) (hp : p) (hd : o.dst = some d) (hn : Nat.blt d n = true) (h : Tr E ⟨n, (d, undef) :: fr, D, M, L⟩ (wpListIn (rf r) 0 P ops Q rest)) : Tr E ⟨n, fr, D, M, L⟩ (wpListIn (rf r) 0 P ops Q (o :: rest)) :=
 Tr.skipg hg hj hl (by rw [decide_eq_true hp]; rfl) hd hn h
end
section
variable {r : Option Nat} {P : Program} {fr : Fr} {M : Mem} {L : List Res}
variable {d : Nat} {ty : TypeId} {pos : String} {aft : Array Edge} {g : Option (Nat × Bool)}
theorem Stab.pick_td {c x y : Operand} {v : Value} {p : Prop} [Decidable p] (hc : ev fr c = some (.bool (decide p))) (hp : p) (h : ev fr x = some v) :
  Stab P fr M L ⟨some d, .pick c x y, ty, pos, aft, g⟩ v := Stab.pick_t hc (decide_eq_true hp) h
theorem Stab.pick_fd {c x y : Operand} {v : Value} {p : Prop} [Decidable p] (hc : ev fr c = some (.bool (decide p))) (hp : ¬ p) (h : ev fr y = some v) :
  Stab P fr M L ⟨some d, .pick c x y, ty, pos, aft, g⟩ v := Stab.pick_f hc (decide_eq_false hp) h
end

inductive SubFr (fr : Fr) : Fr → Prop
 | nil : SubFr fr []
 | cons {k : Nat} {v : Value} {r : Fr} (h : look fr k = some v) (t : SubFr fr r) : SubFr fr ((k, v) :: r)
theorem SubFr.mem {fr fr' : Fr} (h : SubFr fr fr') : ∀ p ∈ fr', look fr p.1 = some p.2 := by
 induction h with
 | nil => simp
 | cons h _ ih =>
  intro p hp
  rcases List.mem_cons.1 hp with rfl | hp
  ·exact h
  ·exact ih p hp
inductive DropL : List Res → List Res → Prop
 | refl {L : List Res} : DropL L L
 | skip {x : Res} {L L' : List Res} (h : DropL L L') : DropL (x :: L) L'
theorem holds_sub {E : World} {n : Nat} {fr fr' : Fr} {D : List Deferred} {M : Mem} {L L' : List Res} (hf : SubFr fr fr') (hL : DropL L L') (a : Act) (w : World) (hs : S.holds E ⟨n, fr, D, M, L⟩ a w) : S.holds E ⟨n, fr', D, M, L'⟩ a w := by
 refine holds_of hf.mem a w ⟨hs.fits, ?_⟩
 have := hs.own
 clear hs
 revert this
 show Own E M L w → Own E M L' w
 induction hL with
 | refl => exact id
 | skip _ ih => exact fun h => ih h.drop
theorem Tr.less {E : World} {n : Nat} {fr : Fr} (fr' : Fr) {D : List Deferred} {M : Mem} {L : List Res} (L' : List Res) {X : Act → World → Prop} (hf : SubFr fr fr') (hL : DropL L L') (k : Tr E ⟨n, fr', D, M, L'⟩ X) : Tr E ⟨n, fr, D, M, L⟩ X :=
 Tr.weaken (holds_sub hf hL) k

/-! what kind of operation it is: for the walk's choice of a rule -/
section
variable {r : Option Nat} {P : Program} {E : World} {Q : Exit → Act → World → Prop} {s : S} {K : S → Prop} {d : Nat} {ty : TypeId} {pos : String} {aft : Array Edge} {g : Option (Nat × Bool)}
theorem Knd.move {x : Operand} (h : Exec r P E Q s ⟨some d, .move x, ty, pos, aft, g⟩ K) : Exec r P E Q s ⟨some d, .move x, ty, pos, aft, g⟩ K := h
theorem Knd.assign {x : Operand} (h : Exec r P E Q s ⟨some d, .assign x, ty, pos, aft, g⟩ K) : Exec r P E Q s ⟨some d, .assign x, ty, pos, aft, g⟩ K := h
theorem Knd.load {t : TypeId} {x : Operand} (h : Exec r P E Q s ⟨some d, .load t x, ty, pos, aft, g⟩ K) : Exec r P E Q s ⟨some d, .load t x, ty, pos, aft, g⟩ K := h
theorem Knd.field {t : TypeId} {x : Operand} {k : Nat} (h : Exec r P E Q s ⟨some d, .field t x k, ty, pos, aft, g⟩ K) : Exec r P E Q s ⟨some d, .field t x k, ty, pos, aft, g⟩ K := h
theorem Knd.fieldAddr {t : TypeId} {x : Operand} {k : Nat} (h : Exec r P E Q s ⟨some d, .fieldAddr t x k, ty, pos, aft, g⟩ K) : Exec r P E Q s ⟨some d, .fieldAddr t x k, ty, pos, aft, g⟩ K := h
theorem Knd.binOp {op : BinOp} {t u : TypeId} {x y : Operand} (h : Exec r P E Q s ⟨some d, .binOp op t x y u, ty, pos, aft, g⟩ K) : Exec r P E Q s ⟨some d, .binOp op t x y u, ty, pos, aft, g⟩ K := h
theorem Knd.unOp {op : UnOp} {t : TypeId} {x : Operand} (h : Exec r P E Q s ⟨some d, .unOp op t x, ty, pos, aft, g⟩ K) : Exec r P E Q s ⟨some d, .unOp op t x, ty, pos, aft, g⟩ K := h
theorem Knd.pick {x y z : Operand} (h : Exec r P E Q s ⟨some d, .pick x y z, ty, pos, aft, g⟩ K) : Exec r P E Q s ⟨some d, .pick x y z, ty, pos, aft, g⟩ K := h
theorem Knd.len {x : Operand} {t : TypeId} (h : Exec r P E Q s ⟨some d, .call { callee := .builtin .len, args := #[x], argTypes := #[t] }, ty, pos, aft, g⟩ K) : Exec r P E Q s ⟨some d, .call { callee := .builtin .len, args := #[x], argTypes := #[t] }, ty, pos, aft, g⟩ K := h
theorem Knd.store {t : TypeId} {x y : Operand} (h : Exec r P E Q s ⟨none, .store t x y, ty, pos, aft, g⟩ K) : Exec r P E Q s ⟨none, .store t x y, ty, pos, aft, g⟩ K := h
theorem Knd.box {t : TypeId} {x : Operand} (h : Exec r P E Q s ⟨some d, .box t x, ty, pos, aft, g⟩ K) : Exec r P E Q s ⟨some d, .box t x, ty, pos, aft, g⟩ K := h
theorem Knd.alloc {t : TypeId} (h : Exec r P E Q s ⟨some d, .alloc t, ty, pos, aft, g⟩ K) : Exec r P E Q s ⟨some d, .alloc t, ty, pos, aft, g⟩ K := h
theorem Knd.extract {x : Operand} {k : Nat} (h : Exec r P E Q s ⟨some d, .extract x k, ty, pos, aft, g⟩ K) : Exec r P E Q s ⟨some d, .extract x k, ty, pos, aft, g⟩ K := h
theorem Knd.indexAddr {t : TypeId} {x y : Operand} (h : Exec r P E Q s ⟨some d, .indexAddr t x y, ty, pos, aft, g⟩ K) : Exec r P E Q s ⟨some d, .indexAddr t x y, ty, pos, aft, g⟩ K := h
theorem Knd.index {t : TypeId} {x y : Operand} (h : Exec r P E Q s ⟨some d, .index t x y, ty, pos, aft, g⟩ K) : Exec r P E Q s ⟨some d, .index t x y, ty, pos, aft, g⟩ K := h
theorem Knd.convert {t1 t : TypeId} {x : Operand} (h : Exec r P E Q s ⟨some d, .convert t1 t x, ty, pos, aft, g⟩ K) : Exec r P E Q s ⟨some d, .convert t1 t x, ty, pos, aft, g⟩ K := h
theorem Knd.slice {t : TypeId} {x : Operand} {lo hi mx : Option Operand} (h : Exec r P E Q s ⟨some d, .slice t x lo hi mx, ty, pos, aft, g⟩ K) : Exec r P E Q s ⟨some d, .slice t x lo hi mx, ty, pos, aft, g⟩ K := h
theorem Knd.build {t : TypeId} {ps : Array (Nat × Operand)} (h : Exec r P E Q s ⟨some d, .build t ps, ty, pos, aft, g⟩ K) : Exec r P E Q s ⟨some d, .build t ps, ty, pos, aft, g⟩ K := h
theorem Knd.buildSlice {t : TypeId} {m : Nat} {ps : Array (Nat × Operand)} (h : Exec r P E Q s ⟨some d, .buildSlice t m ps, ty, pos, aft, g⟩ K) : Exec r P E Q s ⟨some d, .buildSlice t m ps, ty, pos, aft, g⟩ K := h
theorem Knd.makeSlice {t : TypeId} {x y : Operand} (h : Exec r P E Q s ⟨some d, .makeSlice t x y, ty, pos, aft, g⟩ K) : Exec r P E Q s ⟨some d, .makeSlice t x y, ty, pos, aft, g⟩ K := h
theorem Knd.call {c : Call} (h : Exec r P E Q s ⟨some d, .call c, ty, pos, aft, g⟩ K) : Exec r P E Q s ⟨some d, .call c, ty, pos, aft, g⟩ K := h
end
end Bf

