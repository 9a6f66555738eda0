/-
 A small logic over the walk's own rules: a state is a list of slots, an immutable part of memory and a list of owned resources.
 Conditions: none; plain laws over any program.
-/
import Derived.Calls
import Derived.Tactics
import Derived.Orders
import Derived.OrdersIn
import Derived.TacticsIn
import Derived.RangeFuncIn
import Derived.KernelRfl
import Derived.Laws.World
import Derived.Laws.Sem
namespace Bf
open Go

def rf (r : Option Nat) : Fence := { fn := fun _ => True, depth := none, alive := false, round := r }
abbrev Mem := Nat → Option Obj
def Mem.le (M M' : Mem) : Prop := ∀ b o, M b = some o → M' b = some o
theorem Mem.le.refl (M : Mem) : Mem.le M M := fun _ _ h => h
theorem Mem.le.trans {A B C : Mem} (h : Mem.le A B) (k : Mem.le B C) : Mem.le A C := fun b o x => k b o (h b o x)
def hp (w : World) : Mem := fun b => w.heap[b]?

structure Res where
 blks : List Nat
 ok : Mem → Prop
 loc : ∀ h h' : Mem, (∀ b, b ∈ blks → h b = h' b) → ok h → ok h'
def pt (b : Nat) (o : Obj) : Res := ⟨[b], fun h => h b = some o, fun h h' e k => (e b (by simp)) ▸ k⟩

structure Own (E : World) (M : Mem) (L : List Res) (w : World) : Prop where
 os : w.os = E.os
 tape : w.tape = E.tape
 output : w.output = E.output
 mem : Mem.le M (hp w)
 res : ∀ r ∈ L, r.ok (hp w)
 lt : ∀ r ∈ L, ∀ b ∈ r.blks, b < w.heap.size
 out : ∀ r ∈ L, ∀ b ∈ r.blks, M b = none
 nd : (L.flatMap (·.blks)).Nodup

theorem hp_lt {w : World} {b : Nat} {o : Obj} (h : hp w b = some o) : b < w.heap.size := (Array.getElem?_eq_some_iff.1 h).1
theorem Own.none_of_ge {E : World} {M : Mem} {L : List Res} {w : World} (h : Own E M L w) {b : Nat} (hb : w.heap.size ≤ b) : M b = none := by
 cases hm : M b with
 | none => rfl
 | some o => have := hp_lt (h.mem b o hm); omega

abbrev Fr := List (Nat × Value)
def look : Fr → Nat → Option Value
 | [], _ => none
 | (k, v) :: r, j => bif Nat.beq k j then some v else look r j
def ev (fr : Fr) : Operand → Option Value
 | .tmp t => look fr t
 | .const v => some v
 | .global g => some (.pointer (some ⟨g, 0, none⟩))
 | .func f => some (.func (.func f) #[] #[])

structure Fits (n : Nat) (fr : Fr) (D : List Deferred) (a : Act) : Prop where
 size : a.tmps.size = n
 get : ∀ k v, look fr k = some v → a.tmps.getD k undef = v
 defers : a.defers = D

theorem Fits.ev {n : Nat} {fr : Fr} {D : List Deferred} {a : Act} (h : Fits n fr D a) {x : Operand} {v : Value} (he : ev fr x = some v) : a.eval x = v := by
 cases x with
 | tmp t => exact h.get t v he
 | const c => simpa [Bf.ev, Act.eval] using he
 | global g => simpa [Bf.ev, Act.eval] using he
 | func f => simpa [Bf.ev, Act.eval] using he

theorem look_cons_eq {k : Nat} {v : Value} {r : Fr} : look ((k, v) :: r) k = some v := by simp [look]
theorem look_cons_ne {k j : Nat} {v : Value} {r : Fr} (h : k ≠ j) : look ((k, v) :: r) j = look r j := by
 have : Nat.beq k j = false := by rw [← Bool.not_eq_true, Nat.beq_eq]; exact h
 simp [look, this]

theorem Fits.put {n : Nat} {fr : Fr} {D : List Deferred} {a : Act} (h : Fits n fr D a) {d : Nat} (hd : Nat.blt d n = true) (v : Value) :
  Fits n ((d, v) :: fr) D (a.put (some d) v) := by
 have hd' : d < a.tmps.size := by rw [h.size]; exact Nat.blt_eq.mp hd
 refine ⟨by simp [Act.put, h.size], fun k u hk => ?_, h.defers⟩
 by_cases e : d = k
 ·subst e
  rw [look_cons_eq] at hk
  cases hk
  simp [Act.put, Array.getD, hd']
 ·rw [look_cons_ne e] at hk
  have := h.get k u hk
  rw [← this]
  simp [Act.put, Array.getElem?_setIfInBounds_ne e]

theorem Fits.sub {n : Nat} {fr fr' : Fr} {D : List Deferred} {a : Act} (h : Fits n fr D a) (hs : ∀ k v, look fr' k = some v → look fr k = some v) : Fits n fr' D a :=
 ⟨h.size, fun k v hk => h.get k v (hs k v hk), h.defers⟩

structure S where
 n : Nat
 fr : Fr
 D : List Deferred
 M : Mem
 L : List Res

structure S.holds (E : World) (s : S) (a : Act) (w : World) : Prop where
 fits : Fits s.n s.fr s.D a
 own : Own E s.M s.L w

def Tr (E : World) (s : S) (X : Act → World → Prop) : Prop := ∀ a w, s.holds E a w → X a w

section rules
variable {r : Option Nat} {P : Program} {E : World} {Q : Exit → Act → World → Prop} {s : S}

theorem Tr.mono {X Y : Act → World → Prop} (h : Tr E s X) (k : ∀ a w, X a w → Y a w) : Tr E s Y := fun a w hs => k a w (h a w hs)
theorem Tr.seq {x y : Code} (h : Tr E s (x.wpIn (rf r) 0 P (Exit.then (y.wpIn (rf r) 0 P Q) Q))) : Tr E s ((Code.seq x y).wpIn (rf r) 0 P Q) := fun a w hs => wpIn_seq (h a w hs)
theorem Tr.skip (h : Tr E s (Q .normal)) : Tr E s (Code.skip.wpIn (rf r) 0 P Q) := fun a w hs => wpIn_skip (h a w hs)
theorem Tr.label {l : Nat} (h : Tr E s (Q .normal)) : Tr E s ((Code.label l).wpIn (rf r) 0 P Q) := fun a w hs => wpIn_label (h a w hs)
theorem Tr.exit {id : Nat} (h : Tr E s (Q (.exit id))) : Tr E s ((Code.exit id).wpIn (rf r) 0 P Q) := fun a w hs => wpIn_exit (h a w hs)
theorem Tr.ret (h : Tr E s (Q .ret)) : Tr E s (Code.ret.wpIn (rf r) 0 P Q) := fun a w hs => wpIn_ret (h a w hs)
theorem Tr.block {id : Nat} {c : Code} (h : Tr E s (c.wpIn (rf r) 0 P (Exit.inBlock id Q))) : Tr E s ((Code.block id c).wpIn (rf r) 0 P Q) := fun a w hs => wpIn_block (h a w hs)
theorem Tr.region {id : Nat} {l : List Oper} (h : Tr E s (wpListIn (rf r) 0 P l.toArray Q l)) : Tr E s ((Code.region id l.toArray false).wpIn (rf r) 0 P Q) := fun a w hs => wpIn_region_lit (h a w hs)
theorem Tr.nil {ops : Array Oper} (h : Tr E s (Q .normal)) : Tr E s (wpListIn (rf r) 0 P ops Q []) := h
theorem Tr.cond {c : Operand} {x y : Code} {t : Bool} (hc : ev s.fr c = some (.bool t)) (ht : t = true → Tr E s (x.wpIn (rf r) 0 P Q)) (hf : t = false → Tr E s (y.wpIn (rf r) 0 P Q)) :
  Tr E s ((Code.cond c x y).wpIn (rf r) 0 P Q) := fun a w hs => wpIn_cond_split (hs.fits.ev hc) (fun h => ht h a w hs) (fun h => hf h a w hs)
theorem Tr.condd {c : Operand} {x y : Code} {p : Prop} [Decidable p] (hc : ev s.fr c = some (.bool (decide p))) (ht : p → Tr E s (x.wpIn (rf r) 0 P Q)) (hf : ¬ p → Tr E s (y.wpIn (rf r) 0 P Q)) :
  Tr E s ((Code.cond c x y).wpIn (rf r) 0 P Q) := Tr.cond hc (fun h => ht (of_decide_eq_true h)) (fun h => hf (of_decide_eq_false h))

def Exec (r : Option Nat) (P : Program) (E : World) (Q : Exit → Act → World → Prop) (s : S) (o : Oper) (K : S → Prop) : Prop :=
 ∀ a w, s.holds E a w → o.wpIn (rf r) 0 P a w (fun a' w' => ∃ s' : S, s'.holds E a' w' ∧ K s') Q

theorem Tr.step {ops : Array Oper} {o : Oper} {rest : List Oper} (hg : o.guard = none) (h : Exec r P E Q s o fun s' => Tr E s' (wpListIn (rf r) 0 P ops Q rest)) :
  Tr E s (wpListIn (rf r) 0 P ops Q (o :: rest)) := fun a w hs =>
 wpListIn_plain hg fun _ hK => Oper.wpIn_mono (fun _ _ ⟨_, h1, h2⟩ => hK _ _ (h2 _ _ h1)) (h a w hs)

theorem yielded_of {n : Nat} {fr : Fr} {D : List Deferred} {a : Act} (h : Fits n fr D a) {ops : Array Oper} {j t : Nat} {b : Bool}
  (hj : (ops[j]?).bind (·.dst) = some t) (hl : look fr t = some (.bool b)) : yielded ops a.tmps j = some b := by
 have := h.get t _ hl
 unfold yielded
 rw [hj]
 simp only [Array.getD_eq_getD_getElem?] at this
 cases ht : a.tmps[t]? with
 | none => rw [ht] at this; simp [undef] at this
 | some v => rw [ht] at this; simp at this; subst this; simp [ht]

theorem Tr.stepg {ops : Array Oper} {o : Oper} {rest : List Oper} {j t : Nat} {b c : Bool} (hg : o.guard = some (j, b)) (hj : (ops[j]?).bind (·.dst) = some t)
  (hl : look s.fr t = some (.bool c)) (hc : c = b) (h : Exec r P E Q s o fun s' => Tr E s' (wpListIn (rf r) 0 P ops Q rest)) :
  Tr E s (wpListIn (rf r) 0 P ops Q (o :: rest)) := fun a w hs => by
 have hw : Region.wanted o (yielded ops a.tmps) = true := by
  have hy := yielded_of hs.fits hj hl
  simp only [Region.wanted, hg, hy, hc, beq_self_eq_true]
 refine wpListIn_step fun K hK => ?_
 rw [if_pos hw]
 exact Oper.wpIn_mono (fun a' w' ⟨s', h1, h2⟩ => hK _ _ (h2 _ _ h1)) (h a w hs)
theorem Tr.skipg {ops : Array Oper} {o : Oper} {rest : List Oper} {j t d : Nat} {b c : Bool} (hg : o.guard = some (j, b)) (hj : (ops[j]?).bind (·.dst) = some t)
  (hl : look s.fr t = some (.bool c)) (hc : (c == b) = false) (hd : o.dst = some d) (hn : Nat.blt d s.n = true) (h : Tr E ⟨s.n, (d, undef) :: s.fr, s.D, s.M, s.L⟩ (wpListIn (rf r) 0 P ops Q rest)) :
  Tr E s (wpListIn (rf r) 0 P ops Q (o :: rest)) := fun a w hs => by
 have hw : Region.wanted o (yielded ops a.tmps) = false := by
  have hy := yielded_of hs.fits hj hl
  simp only [Region.wanted, hg, hy]
  simpa using hc
 refine wpListIn_step fun K hK => ?_
 rw [if_neg (by simp [hw])]
 refine ⟨fun _ _ => trivial, hK _ _ (h _ _ ⟨?_, hs.own⟩)⟩
 rw [hd]
 exact hs.fits.put hn _
end rules

structure KH (M : Mem) (L : List Res) (w : World) : Prop where
 mem : Mem.le M (hp w)
 res : ∀ r ∈ L, r.ok (hp w)
theorem Own.kh {E : World} {M : Mem} {L : List Res} {w : World} (h : Own E M L w) : KH M L w := ⟨h.mem, h.res⟩

def Stab (P : Program) (fr : Fr) (M : Mem) (L : List Res) (o : Oper) (v : Value) : Prop :=
 ∀ n D a w, Fits n fr D a → KH M L w → (execOp a.eval o).run P w = .ok (.value v) w

theorem semAt_of {r : Option Nat} {P : Program} {ρ : Operand → Value} {o : Oper} {w w' : World} {nx : Next} (h : (execOp ρ o).run P w = .ok nx w') (hnd : ∀ d, nx ≠ .defer d) : Oper.semAt r ρ o = execOp ρ o := by
 refine Oper.semAt_eq r ρ o fun c hc => ?_
 unfold execOp at h
 rw [hc] at h
 simp only [Sem.run_bind] at h
 cases hr : (resolve ρ c o.type).run P w with
 | halt x w'' => rw [hr] at h; cases h
 | ok d w'' => rw [hr] at h; simp only [Result.andThen_ok, Sem.run_pure, Result.ok.injEq] at h; exact hnd d h.1.symm
theorem wpIn_of_run {r : Option Nat} {P : Program} {Q : Exit → Act → World → Prop} {o : Oper} {a : Act} {w w' : World} {nx : Next} {K : Act → World → Prop} (h : (execOp a.eval o).run P w = .ok nx w') (hnd : ∀ d, nx ≠ .defer d)
  (k : o.uponIn (rf r) 0 P a K Q (.ok nx w')) : o.wpIn (rf r) 0 P a w K Q := by
 refine ⟨fun _ _ => trivial, ?_⟩
 show o.uponIn (rf r) 0 P a K Q ((o.semAt r a.eval).run P w)
 rw [semAt_of h hnd, h]
 exact k

theorem Exec.stab {r : Option Nat} {P : Program} {E : World} {Q : Exit → Act → World → Prop} {n : Nat} {fr : Fr} {D : List Deferred} {M : Mem} {L : List Res} {o : Oper} {K : S → Prop} {d : Nat} {v : Value} (hd : o.dst = some d)
  (h : Stab P fr M L o v) (hn : Nat.blt d n = true) (k : K ⟨n, (d, v) :: fr, D, M, L⟩) : Exec r P E Q ⟨n, fr, D, M, L⟩ o K := fun a w hs => by
 refine wpIn_of_run (h n D a w hs.fits hs.own.kh) (fun _ h => by cases h) ?_
 refine ⟨⟨n, (d, v) :: fr, D, M, L⟩, ⟨?_, hs.own⟩, k⟩
 rw [hd]
 exact hs.fits.put hn _

inductive Upd : List Res → Res → Res → List Res → Prop
 | here {r r' : Res} {L : List Res} : Upd (r :: L) r r' (r' :: L)
 | there {x r r' : Res} {L L' : List Res} (h : Upd L r r' L') : Upd (x :: L) r r' (x :: L')
theorem Upd.mem {L L' : List Res} {r r' : Res} (h : Upd L r r' L') : r ∈ L := by
 induction h with
 | here => simp
 | there _ ih => simp [ih]
theorem Upd.split {L L' : List Res} {r r' : Res} (h : Upd L r r' L') : ∃ A B, L = A ++ r :: B ∧ L' = A ++ r' :: B := by
 induction h with
 | here => exact ⟨[], _, rfl, rfl⟩
 | @there x _ _ _ _ _ ih => obtain ⟨A, B, rfl, rfl⟩ := ih; exact ⟨x :: A, B, rfl, rfl⟩

theorem Own.upd {E : World} {M : Mem} {L L' : List Res} {w w' : World} {r r' : Res} (h : Own E M L w) (u : Upd L r r' L')
  (he : w'.os = w.os ∧ w'.tape = w.tape ∧ w'.output = w.output) (hsz : w.heap.size ≤ w'.heap.size)
  (far : ∀ b, b ∉ r.blks → b < w.heap.size → hp w' b = hp w b) (ok : r'.ok (hp w'))
  (hb : ∀ b ∈ r'.blks, b < w'.heap.size ∧ (b ∈ r.blks ∨ w.heap.size ≤ b)) (hnd : r'.blks.Nodup) : Own E M L' w' := by
 obtain ⟨A, B, rfl, rfl⟩ := u.split
 have hnd0 := h.nd
 simp only [List.flatMap_append, List.flatMap_cons, List.nodup_append, List.mem_append, List.mem_flatMap] at hnd0
 have hout : ∀ x, x ∈ A ++ B → ∀ b ∈ x.blks, b ∉ r.blks := by
  intro x hx b hbx hbr
  rcases List.mem_append.1 hx with hx | hx
  ·exact hnd0.2.2 b ⟨x, hx, hbx⟩ b (.inl hbr) rfl
  ·exact hnd0.2.1.2.2 b hbr b ⟨x, hx, hbx⟩ rfl
 have hin : ∀ x, x ∈ A ++ B → x ∈ A ++ r :: B := by
  intro x hx; rcases List.mem_append.1 hx with hx | hx <;> simp [hx]
 have hmid : r ∈ A ++ r :: B := by simp
 have hcases : ∀ x, x ∈ A ++ r' :: B → x = r' ∨ x ∈ A ++ B := by
  intro x hx; simp only [List.mem_append, List.mem_cons] at hx ⊢; rcases hx with h | h | h <;> simp [h]
 refine ⟨he.1.trans h.os, he.2.1.trans h.tape, he.2.2.trans h.output, ?_, ?_, ?_, ?_, ?_⟩
 ·intro b o hm
  have h1 := h.mem b o hm
  rw [far b (fun hbr => by rw [h.out r hmid b hbr] at hm; cases hm) (hp_lt h1)]
  exact h1
 ·intro x hx
  rcases hcases x hx with rfl | hx
  ·exact ok
  ·exact x.loc _ _ (fun b hbx => (far b (hout x hx b hbx) (h.lt x (hin x hx) b hbx)).symm) (h.res x (hin x hx))
 ·intro x hx b hbx
  rcases hcases x hx with rfl | hx
  ·exact (hb b hbx).1
  ·exact Nat.lt_of_lt_of_le (h.lt x (hin x hx) b hbx) hsz
 ·intro x hx b hbx
  rcases hcases x hx with rfl | hx
  ·rcases (hb b hbx).2 with h1 | h1
   ·exact h.out r hmid b h1
   ·exact h.none_of_ge h1
  ·exact h.out x (hin x hx) b hbx
 ·have hlt : ∀ x, x ∈ A ++ B → ∀ b ∈ x.blks, ∀ c ∈ r'.blks, b ≠ c := by
   rintro x hx b hbx c hc rfl
   rcases (hb b hc).2 with h1 | h1
   ·exact hout x hx b hbx h1
   ·have := h.lt x (hin x hx) b hbx; omega
  simp only [List.flatMap_append, List.flatMap_cons, List.nodup_append, List.mem_append, List.mem_flatMap]
  refine ⟨hnd0.1, ⟨hnd, hnd0.2.1.2.1, ?_⟩, ?_⟩
  ·rintro b hbr c ⟨x, hx, hcx⟩ rfl
   exact hlt x (by simp [hx]) b hcx b hbr rfl
  ·rintro b ⟨x, hx, hbx⟩ c hc rfl
   rcases hc with hc | ⟨y, hy, hcy⟩
   ·exact hlt x (by simp [hx]) b hbx b hc rfl
   ·exact hnd0.2.2 b ⟨x, hx, hbx⟩ b (.inr ⟨y, hy, hcy⟩) rfl

theorem Own.new {E : World} {M : Mem} {L : List Res} {w w' : World} {r : Res} (h : Own E M L w)
  (he : w'.os = w.os ∧ w'.tape = w.tape ∧ w'.output = w.output) (hsz : w.heap.size ≤ w'.heap.size)
  (far : ∀ b, b < w.heap.size → hp w' b = hp w b) (ok : r.ok (hp w'))
  (hb : ∀ b ∈ r.blks, b < w'.heap.size ∧ w.heap.size ≤ b) (hnd : r.blks.Nodup) : Own E M (r :: L) w' := by
 refine ⟨he.1.trans h.os, he.2.1.trans h.tape, he.2.2.trans h.output, ?_, ?_, ?_, ?_, ?_⟩
 ·intro b o hm
  have h1 := h.mem b o hm
  rw [far b (hp_lt h1)]
  exact h1
 ·intro x hx
  rcases List.mem_cons.1 hx with rfl | hx
  ·exact ok
  ·exact x.loc _ _ (fun b hbx => (far b (h.lt x hx b hbx)).symm) (h.res x hx)
 ·intro x hx b hbx
  rcases List.mem_cons.1 hx with rfl | hx
  ·exact (hb b hbx).1
  ·exact Nat.lt_of_lt_of_le (h.lt x hx b hbx) hsz
 ·intro x hx b hbx
  rcases List.mem_cons.1 hx with rfl | hx
  ·exact h.none_of_ge (hb b hbx).2
  ·exact h.out x hx b hbx
 ·simp only [List.flatMap_cons, List.nodup_append, List.mem_flatMap]
  refine ⟨hnd, h.nd, ?_⟩
  rintro b hbr c ⟨x, hx, hcx⟩ rfl
  have := h.lt x hx b hcx
  have := (hb b hbr).2
  omega

theorem Own.same {E : World} {M : Mem} {L : List Res} {w w' : World} (h : Own E M L w)
  (he : w'.os = w.os ∧ w'.tape = w.tape ∧ w'.output = w.output) (hh : w'.heap = w.heap) : Own E M L w' := by
 have e : hp w' = hp w := by unfold hp; rw [hh]
 exact ⟨he.1.trans h.os, he.2.1.trans h.tape, he.2.2.trans h.output, e ▸ h.mem, fun r hr => e ▸ h.res r hr, fun r hr b hb => hh ▸ h.lt r hr b hb, h.out, h.nd⟩

theorem Own.sub {E : World} {M : Mem} {L L' : List Res} {w : World} (h : Own E M L w) (hs : ∀ r ∈ L', r ∈ L) (hnd : (L'.flatMap (·.blks)).Nodup) : Own E M L' w :=
 ⟨h.os, h.tape, h.output, h.mem, fun r hr => h.res r (hs r hr), fun r hr => h.lt r (hs r hr), fun r hr => h.out r (hs r hr), hnd⟩
theorem Own.drop {E : World} {M : Mem} {L : List Res} {r : Res} {w : World} (h : Own E M (r :: L) w) : Own E M L w :=
 h.sub (fun x hx => by simp [hx]) (by have := h.nd; simp only [List.flatMap_cons, List.nodup_append] at this; exact this.2.1)
theorem Own.perm {E : World} {M : Mem} {L L' : List Res} {w : World} (h : Own E M L w) (hp : L'.Perm L) : Own E M L' w :=
 h.sub (fun _ hr => hp.mem_iff.1 hr) ((hp.flatMap_right (·.blks)).nodup_iff.2 h.nd)

theorem Own.publish {E : World} {M : Mem} {L : List Res} {r : Res} {w : World} (h : Own E M (r :: L) w) :
  ∃ M', Own E M' L w ∧ Mem.le M M' ∧ r.ok M' ∧ (∀ b, b ∉ r.blks → M' b = M b) := by
 classical
 refine ⟨fun b => if b ∈ r.blks then hp w b else M b, ⟨h.os, h.tape, h.output, ?_, fun x hx => h.res x (by simp [hx]), fun x hx => h.lt x (by simp [hx]), ?_, h.drop.nd⟩, ?_, ?_, ?_⟩
 ·intro b o hb
  dsimp only at hb
  split at hb
  ·exact hb
  ·exact h.mem b o hb
 ·intro x hx b hbx
  show (if b ∈ r.blks then hp w b else M b) = none
  rw [if_neg]
  ·exact h.out x (by simp [hx]) b hbx
  ·intro hbr
   have := h.nd
   simp only [List.flatMap_cons, List.nodup_append, List.mem_flatMap] at this
   exact this.2.2 b hbr b ⟨x, hx, hbx⟩ rfl
 ·intro b o hb
  show (if b ∈ r.blks then hp w b else M b) = some o
  rw [if_neg]
  ·exact hb
  ·intro hbr
   rw [h.out r (by simp) b hbr] at hb
   cases hb
 ·exact r.loc (hp w) _ (fun b hb => by simp [hb]) (h.res r (by simp))
 ·intro b hb
  simp [hb]

end Bf

