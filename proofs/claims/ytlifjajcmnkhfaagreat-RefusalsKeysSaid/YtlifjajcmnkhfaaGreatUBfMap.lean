/-
 Maps whose keys are whole numbers, owned by the walk: made, written, asked.
 Conditions: none; plain laws over any program.
-/
import Derived.Test.YtlifjajcmnkhfaaGreatUBfRange
import Derived.Test.YtlifjajcmnkhfaaGreatUBfLend
namespace Bf
open Go
def IntKeys (l : List MapEntry) : Prop := ∀ e ∈ l, ∃ k, e.key = .int .i64 k
def keyIs (k : Int) (e : MapEntry) : Bool := match e.key with | .int .i64 j => decide (j = k) | _ => false
theorem keyIs_iff {k : Int} {e : MapEntry} : keyIs k e = true ↔ e.key = .int .i64 k := by
 unfold keyIs
 split
 ·rename_i j hj
  rw [hj]
  simp
 ·rename_i h
  constructor
  ·intro h; cases h
  ·intro h2; exact absurd h2 (h k)
def lookE (k : Int) : List MapEntry → Nat → Option (Nat × Value)
 | [], _ => none
 | e :: l, i => if keyIs k e = true then some (i, e.val) else lookE k l (i + 1)
def valE (k : Int) (l : List MapEntry) : Option Value := (lookE k l 0).map (·.2)
theorem findNow_int (k : Int) : ∀ (l : List MapEntry) (i : Nat), IntKeys l → Instr.findNow (.int .i64) (.int .i64 k) l i = some (lookE k l i)
 | [], _, _ => rfl
 | e :: l, i, h => by
  obtain ⟨j, hj⟩ := h e (by simp)
  have ih := findNow_int k l (i + 1) fun e he => h e (by simp [he])
  unfold Instr.findNow lookE
  rw [hj]
  by_cases ejk : k = j
  ·subst ejk
   rw [if_pos (keyIs_iff.2 hj)]
   simp [Instr.sameNow]
  ·have h1 : (k == j) = false := by simpa using ejk
   have h2 : ¬ keyIs k e = true := fun h => by
    rw [keyIs_iff, hj] at h
    injection h with _ h
    exact ejk h.symm
   rw [if_neg h2]
   simp only [Instr.sameNow, if_true, h1]
   exact ih
theorem lookE_shift (k : Int) : ∀ (l : List MapEntry) (i : Nat), lookE k l i = (lookE k l 0).map fun p => (p.1 + i, p.2)
 | [], _ => rfl
 | e :: l, i => by
  unfold lookE
  split
  ·simp
  ·rw [lookE_shift k l (i + 1), lookE_shift k l (0 + 1)]
   cases lookE k l 0 with
   | none => rfl
   | some p => simp; omega
theorem lookE_at (k : Int) : ∀ (l : List MapEntry) (i : Nat) (v : Value), lookE k l 0 = some (i, v) → ∃ e, l[i]? = some e ∧ e.key = .int .i64 k ∧ e.val = v
 | [], _, _, h => by simp [lookE] at h
 | e :: l, i, v, h => by
  unfold lookE at h
  split at h
  ·rename_i hk
   simp at h
   obtain ⟨rfl, rfl⟩ := h
   exact ⟨e, rfl, keyIs_iff.1 hk, rfl⟩
  ·rw [lookE_shift] at h
   cases hl : lookE k l 0 with
   | none => rw [hl] at h; simp at h
   | some p =>
    rw [hl] at h
    simp at h
    obtain ⟨rfl, rfl⟩ := h
    obtain ⟨e', h1, h2, h3⟩ := lookE_at k l p.1 p.2 (by rw [hl])
    exact ⟨e', by simpa using h1, h2, h3⟩
def updE (k : Int) (v : Value) (l : List MapEntry) (clock : Nat) : List MapEntry × Nat :=
 match lookE k l 0 with
 | some (i, _) => (l.modify i fun e => { e with key := .int .i64 k, val := v }, clock)
 | none => (l ++ [{ key := .int .i64 k, val := v, born := clock }], clock + 1)
theorem updE_keys {k : Int} {v : Value} {l : List MapEntry} {clock : Nat} (h : IntKeys l) : IntKeys (updE k v l clock).1 := by
 unfold updE
 split
 ·intro e he
  obtain ⟨i, hi⟩ := List.mem_iff_getElem?.1 he
  rw [List.getElem?_modify] at hi
  cases hl : l[i]? with
  | none => rw [hl] at hi; simp at hi
  | some e' =>
   rw [hl] at hi
   simp at hi
   split at hi
   ·subst hi; exact ⟨k, rfl⟩
   ·subst hi; exact h _ (List.mem_of_getElem? hl)
 ·intro e he
  rcases List.mem_append.1 he with he | he
  ·exact h e he
  ·simp at he; subst he; exact ⟨k, rfl⟩
theorem valE_cons (k : Int) (e : MapEntry) (l : List MapEntry) : valE k (e :: l) = if keyIs k e = true then some e.val else valE k l := by
 unfold valE
 rw [lookE]
 split
 ·rfl
 ·rw [lookE_shift]
  cases lookE k l 0 <;> rfl
theorem valE_append (k : Int) (e : MapEntry) : ∀ l : List MapEntry, valE k (l ++ [e]) = match valE k l with | some v => some v | none => if keyIs k e = true then some e.val else none
 | [] => by
  rw [List.nil_append, valE_cons]
  rfl
 | x :: l => by
  rw [List.cons_append, valE_cons, valE_cons, valE_append k e l]
  split
  ·rfl
  ·rfl
theorem valE_modify (k k' : Int) (v : Value) : ∀ (l : List MapEntry) (i : Nat) (u : Value), lookE k l 0 = some (i, u) → valE k' (l.modify i fun e => { e with key := .int .i64 k, val := v }) = if k' = k then some v else valE k' l
 | [], _, _, h => by simp [lookE] at h
 | e :: l, i, u, h => by
  unfold lookE at h
  split at h
  ·rename_i hk
   simp at h
   obtain ⟨rfl, rfl⟩ := h
   rw [List.modify_zero_cons, valE_cons, valE_cons]
   by_cases e2 : k' = k
   ·subst e2
    rw [if_pos rfl, if_pos (keyIs_iff.2 rfl)]
   ·have h2 : ¬ keyIs k' e = true := fun h => by
     rw [keyIs_iff, keyIs_iff.1 hk] at h
     injection h with _ h
     exact e2 h.symm
    have h3 : ¬ keyIs k' { e with key := .int .i64 k, val := v } = true := fun h => by
     rw [keyIs_iff] at h
     injection h with _ h
     exact e2 h.symm
    rw [if_neg h2, if_neg h3, if_neg e2]
  ·rename_i hk
   rw [lookE_shift] at h
   cases hl : lookE k l 0 with
   | none => rw [hl] at h; simp at h
   | some p =>
    rw [hl] at h
    simp at h
    obtain ⟨rfl, rfl⟩ := h
    have ih := valE_modify k k' v l p.1 p.2 (by rw [hl])
    rw [List.modify_succ_cons, valE_cons, valE_cons, ih]
    by_cases e2 : k' = k
    ·subst e2
     rw [if_neg hk, if_pos rfl, if_pos rfl]
    ·rw [if_neg e2, if_neg e2]
theorem updE_val (k k' : Int) (v : Value) (l : List MapEntry) (clock : Nat) : valE k' (updE k v l clock).1 = if k' = k then some v else valE k' l := by
 unfold updE
 cases hl : lookE k l 0 with
 | some p => exact valE_modify k k' v l p.1 p.2 (by rw [hl])
 | none =>
  show valE k' (l ++ [_]) = _
  rw [valE_append]
  have hk : valE k l = none := by unfold valE; rw [hl]; rfl
  by_cases e : k' = k
  ·subst e
   rw [hk, if_pos rfl]
   show (if _ then _ else _) = _
   rw [if_pos (keyIs_iff.2 rfl)]
  ·rw [if_neg e]
   cases valE k' l with
   | some u => rfl
   | none =>
    show (if _ then _ else _) = _
    rw [if_neg]
    intro h
    rw [keyIs_iff] at h
    injection h with _ h
    exact e h.symm
def mapR (b : Nat) (es : List MapEntry) (clock : Nat) : Res := pt b (.map es.toArray clock)
section
variable {r : Option Nat} {P : Program} {E : World} {Q : Exit → Act → World → Prop} {n : Nat} {fr : Fr} {D : List Deferred} {M : Mem} {L : List Res} {K : S → Prop}
variable {d : Nat} {ty : TypeId} {pos : String} {aft : Array Edge} {g : Option (Nat × Bool)}
theorem Knd.lookup {t : TypeId} {x y : Operand} {b : Bool} (h : Exec r P E Q ⟨n, fr, D, M, L⟩ ⟨some d, .lookup t x y b, ty, pos, aft, g⟩ K) : Exec r P E Q ⟨n, fr, D, M, L⟩ ⟨some d, .lookup t x y b, ty, pos, aft, g⟩ K := h
theorem Knd.makeMap {t : TypeId} {x : Option Operand} (h : Exec r P E Q ⟨n, fr, D, M, L⟩ ⟨some d, .makeMap t x, ty, pos, aft, g⟩ K) : Exec r P E Q ⟨n, fr, D, M, L⟩ ⟨some d, .makeMap t x, ty, pos, aft, g⟩ K := h
theorem Knd.mapUpdate {t : TypeId} {x y z : Operand} (h : Exec r P E Q ⟨n, fr, D, M, L⟩ ⟨none, .mapUpdate t x y z, ty, pos, aft, g⟩ K) : Exec r P E Q ⟨n, fr, D, M, L⟩ ⟨none, .mapUpdate t x y z, ty, pos, aft, g⟩ K := h
theorem Exec.makeMap {t : TypeId} (hn : Nat.blt d n = true) (k : ∀ b, K ⟨n, (d, .map (some b)) :: fr, D, M, mapR b [] 0 :: L⟩) :
  Exec r P E Q ⟨n, fr, D, M, L⟩ ⟨some d, .makeMap t none, ty, pos, aft, g⟩ K :=
 Exec.of_run (R := fun v M' L' => ∃ b, v = .map (some b) ∧ M' = M ∧ L' = mapR b [] 0 :: L) rfl hn
  (fun a w hs => ⟨_, _, M, _, by
   simp only [execOp, Instr.makeMap, Option.map, Sem.run_bind, run_newObj, Sem.run_pure, Result.andThen_ok]; rfl, hs.own.alloc _, _, rfl, rfl, rfl⟩)
  (by rintro _ _ _ ⟨b, rfl, rfl, rfl⟩; exact k b)
theorem run_getMap {w : World} {b cl : Nat} {es : Array MapEntry} (h : w.heap[b]? = some (.map es cl)) : (getObj b).run P w = .ok (.map es cl) w := by simp [getObj, Sem.run, h]
theorem run_checkInt {w : World} {kt : TypeId} {em : Bool} {k : Int} (hk : P.underlying kt = some (.int .i64)) : (Instr.checkKey em 10000 kt (.int .i64 k)).run P w = .ok () w := by
 show (Instr.checkKey em (9999 + 1) kt (.int .i64 k)).run P w = _
 unfold Instr.checkKey
 simp only [Sem.run_bind, run_underlying hk, Result.andThen_ok, Sem.run_pure]
theorem run_findInt {w : World} {kt : TypeId} {k : Int} {l : List MapEntry} (hk : P.underlying kt = some (.int .i64)) (h : IntKeys l) : (Instr.findKey kt (.int .i64 k) l).run P w = .ok (lookE k l 0) w := by
 unfold Instr.findKey
 simp only [Sem.run_bind, run_underlying hk, Result.andThen_ok, findNow_int k l 0 h, Sem.run_pure]
theorem modify_toArray (es : List MapEntry) (i : Nat) (f : MapEntry → MapEntry) : es.toArray.modify i f = (es.modify i f).toArray := by
 apply Array.ext'
 simp
theorem Exec.mapUpdate {t kt et : TypeId} {i ki : TyI} {x y z : Operand} {b cl : Nat} {k : Int} {v : Value} {es : List MapEntry} {L' : List Res} (hx : ev fr x = some (.map (some b))) (hy : ev fr y = some (.int .i64 k)) (hv : ev fr z = some v) (hT : HasTy P t i) (hd : i.desc = .map kt et) (hK : HasTy P kt ki) (hkd : ki.desc = .int .i64)
  (hkeys : IntKeys es) (hL : Upd L (mapR b es cl) (mapR b (updE k v es cl).1 (updE k v es cl).2) L') (kk : K ⟨n, fr, D, M, L'⟩) : Exec r P E Q ⟨n, fr, D, M, L⟩ ⟨none, .mapUpdate t x y z, ty, pos, aft, g⟩ K :=
 Exec.of_run0 rfl (fun a w hh => by
  have hb : w.heap[b]? = some (.map es.toArray cl) := hh.own.res _ hL.mem
  have hu := hT.1
  rw [hd] at hu
  have hku := hK.1
  rw [hkd] at hku
  refine ⟨_, ?_, hh.own.setObj hL⟩
  simp only [execOp, Instr.mapUpdate, hh.fits.ev hx, hh.fits.ev hy, hh.fits.ev hv, Sem.run_bind, run_underlying hu, run_getMap hb, run_checkInt hku, run_findInt hku hkeys, Result.andThen_ok, Sem.run_pure]
  unfold updE
  cases hl : lookE k es 0 with
  | none =>
   simp only [run_setObj hb rfl, Result.andThen_ok]
   simp
  | some p =>
   obtain ⟨e, h1, h2, h3⟩ := lookE_at k es p.1 p.2 (by rw [hl])
   have hkey : ((es.toArray[p.1]?).map (·.key)).getD (.int .i64 k) = .int .i64 k := by simp [h1, h2]
   have hst : (Instr.keyThatStays (.int .i64 k) (.int .i64 k)).run P w = .ok (.int .i64 k) w := by
    unfold Instr.keyThatStays
    simp [Instr.sameBits, Sem.run_pure]
   simp only [hkey, hst, run_setObj hb rfl, Sem.run_bind, Result.andThen_ok, modify_toArray]) kk
theorem IntKeys.nil : IntKeys [] := fun e h => by cases h
end
end Bf

