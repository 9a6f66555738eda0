/-
 Structs of whole numbers, also nested: compared, and as keys of maps that the walk owns.
 Conditions: none; plain laws over any program.
-/
import Derived.Test.YtlifjajcmnkhfaaGreatUBfMap2
import Derived.Test.YtlifjajcmnkhfaaGreatUBfStruct
import Derived.ChangeKeysEq
namespace Bf
open Go
def flatL (g : TypeId → Option Nat) : Nat → List Field → Option Nat
 | k, [] => some k
 | k, f :: fs => if f.name != "_" && f.offset == k then (match g f.type with | some m => flatL g (k + m) fs | none => none) else none
def flatT (P : Program) : Nat → TypeId → Option Nat
 | 0, _ => none
 | d + 1, t => match P.underlying t with
  | some (.int .i64) => some 1
  | some (.struct fs) => if P.stoodInHeld t then none else (match flatL (flatT P d) 0 fs.toList with | some m => if P.cellsOf t == m then some m else none | none => none)
  | _ => none
def ints (xs : List Int) : Value := .agg (xs.map (Value.int .i64)).toArray
def vT (P : Program) (t : TypeId) (xs : List Int) : Value := match P.underlying t with
 | some (.struct _) => ints xs
 | _ => .int .i64 (xs.headD 0)
theorem flatL_le {g : TypeId → Option Nat} : ∀ {fs : List Field} {k m : Nat}, flatL g k fs = some m → k ≤ m
 | [], k, m, h => by simp only [flatL, Option.some.injEq] at h; omega
 | f :: fs, k, m, h => by
  unfold flatL at h
  split at h
  ·split at h
   ·have := flatL_le h; omega
   ·cases h
  ·cases h
theorem flatT_cases {P : Program} {d : Nat} {t : TypeId} {m : Nat} (h : flatT P (d + 1) t = some m) :
  (P.underlying t = some (.int .i64) ∧ m = 1) ∨ ∃ fs, P.underlying t = some (.struct fs) ∧ P.stoodInHeld t = false ∧ flatL (flatT P d) 0 fs.toList = some m ∧ P.cellsOf t = m := by
 unfold flatT at h
 split at h
 ·rename_i hu
  exact .inl ⟨hu, (Option.some.inj h).symm⟩
 ·rename_i fs hu
  split at h
  ·cases h
  ·rename_i hs
   split at h
   ·rename_i m' hm
    split at h
    ·rename_i hc
     cases h
     exact .inr ⟨fs, hu, by simpa using hs, hm, by simpa using hc⟩
    ·cases h
   ·cases h
 ·cases h
theorem take_drop_len {α : Type} {xs : List α} {k m n : Nat} (h : xs.length = n) (hk : k + m ≤ n) : ((xs.drop k).take m).length = m := by
 rw [List.length_take, List.length_drop]; omega
theorem run_partT {P : Program} {d : Nat} {t : TypeId} {m k : Nat} (h : flatT P d t = some m) (xs : List Int) (hk : k + m ≤ xs.length) (w : World) :
  (part t (xs.map (Value.int .i64)).toArray k).run P w = .ok (vT P t ((xs.drop k).take m)) w := by
 cases d with
 | zero => cases h
 | succ d =>
  rcases flatT_cases h with ⟨hu, rfl⟩ | ⟨fs, hu, -, -, hc⟩
  ·have hx : k < xs.length := by omega
   unfold vT
   rw [hu]
   have e : ((xs.drop k).take 1).headD 0 = xs[k] := by
    rw [List.drop_eq_getElem_cons hx]; rfl
   rw [e]
   simp [part, run_isAgg hu, TypeDesc.agg, hx]
  ·obtain ⟨i, hi⟩ := info_of_underlying hu
   unfold vT
   rw [hu]
   have hsz : (Go.sizeOf t).run P w = .ok (P.cellsOf t) w := by first | exact Go.run_sizeOf hi | exact Go.run_sizeOf w hi
   simp only [part, Sem.run_bind, run_isAgg hu, TypeDesc.agg, Result.andThen_ok, if_true, hsz, Sem.run_pure, hc, ints]
   congr 2
   apply Array.ext'
   simp only [List.extract_toArray, List.extract_eq_take_drop]
   rw [show k + m - k = m by omega, List.map_take, List.map_drop]
theorem run_eqT {P : Program} : ∀ (d : Nat) {t : TypeId} {m : Nat}, flatT P d t = some m → ∀ (D : Nat), d ≤ D → ∀ (w : World) (xs ys : List Int), xs.length = m → ys.length = m →
  (Op.equalIn D t (vT P t xs) (vT P t ys)).run P w = .ok (decide (xs = ys)) w
 | 0, _, _, h, _, _, _, _, _, _, _ => by cases h
 | d + 1, t, m, h, D, hD, w, xs, ys, hx, hy => by
  obtain ⟨D, rfl⟩ : ∃ D', D = D' + 1 := ⟨D - 1, by omega⟩
  rcases flatT_cases h with ⟨hu, rfl⟩ | ⟨fs, hu, hp, hm, hc⟩
  ·unfold vT
   rw [hu]
   obtain ⟨x, rfl⟩ := List.length_eq_one_iff.1 hx
   obtain ⟨y, rfl⟩ := List.length_eq_one_iff.1 hy
   show (Op.equalIn (D + 1) t (.int .i64 x) (.int .i64 y)).run P w = _
   rw [run_equalIn_int (P := P) w D t .i64 .i64 x y hu]
   congr 1
   by_cases e : x = y
   ·subst e; simp
   ·rw [decide_eq_false (fun h => e (List.cons.inj h).1)]; simpa using e
  ·have hfo : P.fieldsOf t = fs := by simp [Program.fieldsOf, hu]
   unfold vT
   rw [hu]
   simp only [ints]
   rw [run_equalIn_struct (P := P) w D t _ _ (by rw [hfo]; exact hu) hp, hfo]
   have key : ∀ (fs : List Field) (k : Nat), flatL (flatT P d) k fs = some m → (Op.eqFields D (xs.map (Value.int .i64)).toArray (ys.map (Value.int .i64)).toArray fs).run P w = .ok (decide (xs.drop k = ys.drop k)) w := by
    intro fs
    induction fs with
    | nil =>
     intro k hk
     simp only [flatL, Option.some.injEq] at hk
     rw [List.drop_of_length_le (by omega), List.drop_of_length_le (by omega)]
     simp [Op.eqFields]
    | cons f fs ih =>
     intro k hk
     unfold flatL at hk
     split at hk
     ·rename_i hc2
      simp only [Bool.and_eq_true, bne_iff_ne, beq_iff_eq] at hc2
      split at hk
      ·rename_i mf hmf
       have hle := flatL_le hk
       have h1 := run_partT (k := k) hmf xs (by omega) w
       have h2 := run_partT (k := k) hmf ys (by omega) w
       have h3 := run_eqT d hmf D (by omega) w ((xs.drop k).take mf) ((ys.drop k).take mf) (take_drop_len hx (by omega)) (take_drop_len hy (by omega))
       simp only [Op.eqFields, if_pos hc2.1, Sem.run_bind, hc2.2, h1, h2, h3, Result.andThen_ok]
       have ex : xs.drop k = (xs.drop k).take mf ++ xs.drop (k + mf) := by rw [← List.drop_drop, List.take_append_drop]
       have ey : ys.drop k = (ys.drop k).take mf ++ ys.drop (k + mf) := by rw [← List.drop_drop, List.take_append_drop]
       by_cases e : (xs.drop k).take mf = (ys.drop k).take mf
       ·rw [decide_eq_true e]
        simp only [Bool.not_true, Bool.false_eq_true, if_false]
        rw [ih (k + mf) hk]
        congr 1
        exact decide_eq_decide.2 ⟨fun h => by rw [ex, ey, e, h], fun h => by rw [ex, ey, e] at h; exact List.append_cancel_left h⟩
       ·rw [decide_eq_false e]
        simp only [Bool.not_false, if_true, Sem.run_pure]
        congr 1
        exact (decide_eq_false (fun h => e (by rw [h]))).symm
      ·cases hk
     ·cases hk
   have := key fs.toList 0 hm
   simpa using this
theorem run_checkT {P : Program} (em : Bool) : ∀ (d : Nat) {t : TypeId} {m : Nat}, flatT P d t = some m → ∀ (D : Nat), d ≤ D → ∀ (w : World) (xs : List Int), xs.length = m →
  (Instr.checkKey em D t (vT P t xs)).run P w = .ok () w
 | 0, _, _, h, _, _, _, _, _ => by cases h
 | d + 1, t, m, h, D, hD, w, xs, hx => by
  obtain ⟨D, rfl⟩ : ∃ D', D = D' + 1 := ⟨D - 1, by omega⟩
  rcases flatT_cases h with ⟨hu, rfl⟩ | ⟨fs, hu, hp, hm, hc⟩
  ·unfold vT
   rw [hu]
   unfold Instr.checkKey
   simp only [Sem.run_bind, run_underlying hu, Result.andThen_ok, Sem.run_pure]
  ·unfold vT
   rw [hu]
   simp only [ints]
   unfold Instr.checkKey
   simp only [Sem.run_bind, run_underlying hu, Result.andThen_ok]
   rw [← Array.forIn_toList]
   have key : ∀ (fs : List Field) (k : Nat), flatL (flatT P d) k fs = some m → (forIn fs PUnit.unit fun f (_ : PUnit) => (if f.name ≠ "_" then (do
     let x ← part f.type (xs.map (Value.int .i64)).toArray f.offset
     Instr.checkKey em D f.type x
     pure (ForInStep.yield PUnit.unit)) else (pure (ForInStep.yield PUnit.unit) : Sem _))).run P w = .ok PUnit.unit w := by
    intro fs
    induction fs with
    | nil =>
     intro k hk
     simp [Sem.run_pure]
    | cons f fs ih =>
     intro k hk
     unfold flatL at hk
     split at hk
     ·rename_i hc2
      simp only [Bool.and_eq_true, bne_iff_ne, beq_iff_eq] at hc2
      split at hk
      ·rename_i mf hmf
       have hle := flatL_le hk
       have h1 := run_partT (k := k) hmf xs (by omega) w
       have h3 := run_checkT em d hmf D (by omega) w ((xs.drop k).take mf) (take_drop_len hx (by omega))
       simp only [List.forIn_cons, Sem.run_bind, if_pos hc2.1, hc2.2, h1, h3, Result.andThen_ok, Sem.run_pure]
       exact ih (k + mf) hk
      ·cases hk
     ·cases hk
   have := key fs.toList 0 hm
   simp only [this, Result.andThen_ok, Sem.run_pure]
structure KeyOk (P : Program) (kt : TypeId) (S : Value → Prop) : Prop where
 und : ∃ fs, P.underlying kt = some (.struct fs)
 chk : ∀ k, S k → ∀ em w, (Instr.checkKey em 10000 kt k).run P w = .ok () w
 eq : ∀ k k', S k → S k' → ∀ w, ∃ b : Bool, (b = true ↔ k = k') ∧ (Op.equal kt k k').run P w = .ok b w
 bits : ∀ k, S k → Instr.sameBits 10000 k k = true
def IntsN (m : Nat) (v : Value) : Prop := ∃ xs : List Int, xs.length = m ∧ v = ints xs
theorem ints_inj {xs ys : List Int} (h : ints xs = ints ys) : xs = ys := by
 unfold ints at h
 injection h with h
 have h2 := congrArg Array.toList h
 simp only at h2
 induction xs generalizing ys with
 | nil => cases ys with
  | nil => rfl
  | cons y ys => simp at h2
 | cons x xs ih => cases ys with
  | nil => simp at h2
  | cons y ys =>
   simp only [List.map_cons, List.cons.injEq, Value.int.injEq, true_and] at h2
   rw [h2.1, ih (ys := ys) (by simpa using h2.2) h2.2]
theorem KeyOk.flat {P : Program} {kt : TypeId} {fs : Array Field} {m d : Nat} (hu : P.underlying kt = some (.struct fs)) (h : flatT P d kt = some m) (hd : d ≤ 10000) : KeyOk P kt (IntsN m) where
 und := ⟨fs, hu⟩
 chk := by
  rintro k ⟨xs, hl, rfl⟩ em w
  have := run_checkT em d h 10000 hd w xs hl
  unfold vT at this
  rwa [hu] at this
 eq := by
  rintro k k' ⟨xs, hl, rfl⟩ ⟨ys, hl', rfl⟩ w
  have := run_eqT d h 10000 hd w xs ys hl hl'
  unfold vT at this
  rw [hu] at this
  exact ⟨decide (xs = ys), by rw [decide_eq_true_iff]; exact ⟨fun h => by rw [h], ints_inj⟩, this⟩
 bits := by
  rintro k ⟨xs, hl, rfl⟩
  show Instr.sameBits (9999 + 1) (ints xs) (ints xs) = true
  unfold ints
  unfold Instr.sameBits
  simp only [beq_self_eq_true, Bool.true_and, List.all_eq_true]
  intro p hp
  obtain ⟨a, b⟩ := p
  have : ∀ (l : List Int), (a, b) ∈ (l.map (Value.int .i64)).zip (l.map (Value.int .i64)) → ∃ n, a = .int .i64 n ∧ b = .int .i64 n := by
   intro l
   induction l with
   | nil => intro h; simp at h
   | cons x l ih =>
    intro h
    simp only [List.map_cons, List.zip_cons_cons, List.mem_cons, Prod.mk.injEq] at h
    rcases h with ⟨h1, h2⟩ | h
    ·exact ⟨x, h1, h2⟩
    ·exact ih h
  obtain ⟨n, rfl, rfl⟩ := this xs (by simpa using hp)
  simp [Instr.sameBits]
theorem KeyOk.ofTy {P : Program} {kt : TypeId} {i : TyI} {fs : Array Field} {m : Nat} (hT : HasTy P kt i) (hd : i.desc = .struct fs) (h : flatT P 4 kt = some m) : KeyOk P kt (IntsN m) :=
 KeyOk.flat (by rw [← hd]; exact hT.1) h (by omega)
open Classical in
noncomputable def lookV (k : Value) : List MapEntry → Nat → Option (Nat × Value)
 | [], _ => none
 | e :: l, i => if e.key = k then some (i, e.val) else lookV k l (i + 1)
noncomputable def valV (k : Value) (l : List MapEntry) : Option Value := (lookV k l 0).map (·.2)
noncomputable def updV (k : Value) (v : Value) (l : List MapEntry) (clock : Nat) : List MapEntry × Nat :=
 match lookV k l 0 with
 | some p => (l.modify p.1 fun e => { e with key := k, val := v }, clock)
 | none => (l ++ [{ key := k, val := v, born := clock }], clock + 1)
def KeysIn (S : Value → Prop) (l : List MapEntry) : Prop := ∀ e ∈ l, S e.key
theorem KeysIn.nil {S : Value → Prop} : KeysIn S [] := fun e h => by cases h
theorem lookV_shift (k : Value) : ∀ (l : List MapEntry) (i : Nat), lookV k l i = (lookV k l 0).map fun p => (p.1 + i, p.2)
 | [], _ => rfl
 | e :: l, i => by
  unfold lookV
  split
  ·simp
  ·rw [lookV_shift k l (i + 1), lookV_shift k l (0 + 1)]
   cases lookV k l 0 with
   | none => rfl
   | some p => simp; omega
theorem lookV_at (k : Value) : ∀ (l : List MapEntry) (i : Nat) (v : Value), lookV k l 0 = some (i, v) → ∃ e, l[i]? = some e ∧ e.key = k ∧ e.val = v
 | [], _, _, h => by simp [lookV] at h
 | e :: l, i, v, h => by
  unfold lookV at h
  split at h
  ·rename_i hk
   cases h
   exact ⟨e, rfl, hk, rfl⟩
  ·rw [lookV_shift] at h
   cases hl : lookV k l 0 with
   | none => rw [hl] at h; cases h
   | some p =>
    rw [hl] at h
    cases h
    obtain ⟨e', h1, h2, h3⟩ := lookV_at k l p.1 p.2 (by rw [hl])
    exact ⟨e', by simpa using h1, h2, h3⟩
theorem updV_keys {S : Value → Prop} {k v : Value} {l : List MapEntry} {clock : Nat} (h : KeysIn S l) (hk : S k) : KeysIn S (updV k v l clock).1 := by
 unfold updV
 split
 ·intro e he
  obtain ⟨j, hj, rfl⟩ := List.getElem_of_mem he
  rw [List.getElem_modify]
  split
  ·exact hk
  ·exact h _ (List.getElem_mem _)
 ·intro e he
  rcases List.mem_append.1 he with h1 | h1
  ·exact h e h1
  ·simp only [List.mem_singleton] at h1
   subst h1
   exact hk
theorem valV_cons (k : Value) (e : MapEntry) (l : List MapEntry) [Decidable (e.key = k)] : valV k (e :: l) = if e.key = k then some e.val else valV k l := by
 unfold valV
 rw [lookV]
 by_cases h : e.key = k
 ·simp [h]
 ·simp only [h, if_false]
  rw [lookV_shift, Option.map_map]
  rfl
theorem valV_append (k : Value) (e : MapEntry) [Decidable (e.key = k)] : ∀ l : List MapEntry, valV k (l ++ [e]) = match valV k l with | some v => some v | none => if e.key = k then some e.val else none
 | [] => by simp [valV, lookV]
 | x :: l => by
  classical
  rw [List.cons_append, valV_cons, valV_cons, valV_append k e l]
  by_cases h : x.key = k
  ·simp [h]
  ·simp [h]
theorem valV_modify (k k' v : Value) [Decidable (k' = k)] : ∀ (l : List MapEntry) (i : Nat) (u : Value), lookV k l 0 = some (i, u) → valV k' (l.modify i fun e => { e with key := k, val := v }) = if k' = k then some v else valV k' l
 | [], i, u, h => by simp [lookV] at h
 | e :: l, i, u, h => by
  classical
  unfold lookV at h
  split at h
  ·rename_i hk
   cases h
   rw [List.modify_zero_cons, valV_cons, valV_cons, hk]
   by_cases hk2 : k' = k
   ·simp [hk2]
   ·have hk3 : ¬ k = k' := fun h => hk2 h.symm
    simp [hk2, hk3]
  ·rename_i hne
   rw [lookV_shift] at h
   cases hl : lookV k l 0 with
   | none => rw [hl] at h; cases h
   | some p =>
    rw [hl] at h
    cases h
    rw [List.modify_succ_cons, valV_cons, valV_cons, valV_modify k k' v l p.1 p.2 (by rw [hl])]
    by_cases hk2 : k' = k
    ·subst hk2; simp [hne]
    ·simp [hk2]
theorem updV_val (k k' v : Value) (l : List MapEntry) (clock : Nat) [Decidable (k' = k)] : valV k' (updV k v l clock).1 = if k' = k then some v else valV k' l := by
 classical
 unfold updV
 split
 ·rename_i p hp
  exact valV_modify k k' v l p.1 p.2 (by rw [hp])
 ·rename_i hp
  simp only
  rw [valV_append]
  by_cases hk : k' = k
  ·subst hk
   have : valV k' l = none := by unfold valV; rw [hp]; rfl
   rw [this]
   simp
  ·cases valV k' l with
   | none =>
    have hk3 : ¬ k = k' := fun h => hk h.symm
    simp [hk, hk3]
   | some v => simp [hk]
theorem run_findV {P : Program} {w : World} {kt : TypeId} {k : Value} {S : Value → Prop} (hk : KeyOk P kt S) {l : List MapEntry} (h : KeysIn S l) (hs : S k) : (Instr.findKey kt k l).run P w = .ok (lookV k l 0) w := by
 obtain ⟨fs, hu⟩ := hk.und
 unfold Instr.findKey
 simp only [Sem.run_bind, run_underlying hu, Result.andThen_ok]
 have hask : ∀ (l : List MapEntry) (i : Nat), KeysIn S l → (Instr.findAsking kt k l i).run P w = .ok (lookV k l i) w := by
  intro l
  induction l with
  | nil => intro i _; simp [Instr.findAsking, lookV, Sem.run_pure]
  | cons e l ih =>
   intro i hl
   obtain ⟨b, hb, hr⟩ := hk.eq k e.key hs (hl e (by simp)) w
   have ih' := ih (i + 1) fun e he => hl e (by simp [he])
   unfold lookV
   simp only [Instr.findAsking, Sem.run_bind, hr, Result.andThen_ok]
   cases b with
   | true => rw [if_pos (hb.1 rfl).symm]; simp [Sem.run_pure]
   | false => rw [if_neg (fun h : e.key = k => by have := hb.2 (Eq.symm h); cases this)]; simpa using ih'
 cases l with
 | nil => simp [Instr.findNow, lookV, Sem.run_pure]
 | cons e l =>
  have hn : Instr.findNow (.struct fs) k (e :: l) 0 = none := by
   unfold Instr.findNow
   simp [Instr.sameNow]
  rw [hn]
  exact hask (e :: l) 0 h
section
variable {r : Option Nat} {P : Program} {E : World} {Q : Exit → Act → World → Prop} {n : Nat} {fr : Fr} {D : List Deferred} {M : Mem} {L : List Res} {K : S → Prop}
variable {d : Nat} {ty : TypeId} {pos : String} {aft : Array Edge} {g : Option (Nat × Bool)}
theorem Stab.lookupV {t kt et : TypeId} {i ei : TyI} {x y : Operand} {b cl : Nat} {k : Value} {es : List MapEntry} {z : Value} {S : Value → Prop} (hk : KeyOk P kt S) (hx : ev fr x = some (.map (some b))) (hy : ev fr y = some k) (hT : HasTy P t i) (hd : i.desc = .map kt et) (hE : HasTy P et ei) (hz : ei.zero = z)
  (hL : Has L (mapR b es cl)) (hkeys : KeysIn S es) (hs : S k) : Stab P fr M L ⟨some d, .lookup t x y false, ty, pos, aft, g⟩ ((valV k es).getD z) := by
 intro n D a w hf hw
 have hb : w.heap[b]? = some (.map es.toArray cl) := hw.res _ hL.mem
 have hu := hT.1
 rw [hd] at hu
 simp only [execOp, Instr.lookup, hf.ev hx, hf.ev hy, Sem.run_bind, run_underlying hu, run_getMap hb, hk.chk k hs, run_findV hk hkeys hs, Result.andThen_ok, Sem.run_pure]
 unfold valV
 cases lookV k es 0 with
 | none => simp [run_zeroValue hE, hz]
 | some p => simp [Sem.run_pure]
theorem Stab.lookupV2 {t kt et : TypeId} {i ei : TyI} {x y : Operand} {b cl : Nat} {k : Value} {es : List MapEntry} {z : Value} {S : Value → Prop} (hk : KeyOk P kt S) (hx : ev fr x = some (.map (some b))) (hy : ev fr y = some k) (hT : HasTy P t i) (hd : i.desc = .map kt et) (hE : HasTy P et ei) (hz : ei.zero = z)
  (hL : Has L (mapR b es cl)) (hkeys : KeysIn S es) (hs : S k) : Stab P fr M L ⟨some d, .lookup t x y true, ty, pos, aft, g⟩ (.tuple #[(valV k es).getD z, .bool (valV k es).isSome]) := by
 intro n D a w hf hw
 have hb : w.heap[b]? = some (.map es.toArray cl) := hw.res _ hL.mem
 have hu := hT.1
 rw [hd] at hu
 simp only [execOp, Instr.lookup, hf.ev hx, hf.ev hy, Sem.run_bind, run_underlying hu, run_getMap hb, hk.chk k hs, run_findV hk hkeys hs, Result.andThen_ok, Sem.run_pure]
 unfold valV
 cases lookV k es 0 with
 | none => simp [run_zeroValue hE, hz]
 | some p => simp [Sem.run_pure]
theorem run_mapSetV {t kt et : TypeId} {i : TyI} {b cl : Nat} {k v : Value} {es : List MapEntry} {S : Value → Prop} {w : World} (hk : KeyOk P kt S) (hT : HasTy P t i) (hd : i.desc = .map kt et) (hkeys : KeysIn S es) (hs : S k) (hb : w.heap[b]? = some (.map es.toArray cl)) :
  (Instr.mapUpdate t (.map (some b)) k v).run P w = (setObj b (.map (updV k v es cl).1.toArray (updV k v es cl).2)).run P w := by
 have hu := hT.1
 rw [hd] at hu
 simp only [Instr.mapUpdate, Sem.run_bind, run_underlying hu, run_getMap hb, hk.chk k hs, run_findV hk hkeys hs, Result.andThen_ok]
 unfold updV
 cases hl : lookV k es 0 with
 | none => simp
 | some p =>
  obtain ⟨e, h1, h2, h3⟩ := lookV_at k es p.1 p.2 (by rw [hl])
  have hkey : ((es.toArray[p.1]?).map (·.key)).getD k = k := by simp [h1, h2]
  have hst : (Instr.keyThatStays k k).run P w = .ok k w := by
   unfold Instr.keyThatStays
   simp [hk.bits k hs, Sem.run_pure]
  simp only [hkey, hst, Sem.run_bind, Result.andThen_ok, modify_toArray]
theorem Exec.mapUpdateV {t kt et : TypeId} {i : TyI} {x y z : Operand} {b cl : Nat} {k v : Value} {es : List MapEntry} {L' : List Res} {S : Value → Prop} (hk : KeyOk P kt S) (hx : ev fr x = some (.map (some b))) (hy : ev fr y = some k) (hv : ev fr z = some v) (hT : HasTy P t i) (hd : i.desc = .map kt et)
  (hkeys : KeysIn S es) (hs : S k) (hL : Upd L (mapR b es cl) (mapR b (updV k v es cl).1 (updV k v es cl).2) L') (kk : K ⟨n, fr, D, M, L'⟩) : Exec r P E Q ⟨n, fr, D, M, L⟩ ⟨none, .mapUpdate t x y z, ty, pos, aft, g⟩ K :=
 Exec.of_run0 rfl (fun a w hh => by
  have hb : w.heap[b]? = some (.map es.toArray cl) := hh.own.res _ hL.mem
  refine ⟨_, ?_, hh.own.setObj hL⟩
  simp only [execOp, hh.fits.ev hx, hh.fits.ev hy, hh.fits.ev hv, Sem.run_bind, run_mapSetV hk hT hd hkeys hs hb, run_setObj hb rfl, Sem.run_pure, Result.andThen_ok]) kk
theorem Stab.lenMap {t : TypeId} {i : TyI} {x : Operand} {b cl : Nat} {es : List MapEntry} (hx : ev fr x = some (.map (some b))) (hT : HasTy P t i) (hd : (match i.desc with | .map _ _ => true | _ => false) = true) (hL : Has L (mapR b es cl)) :
  Stab P fr M L ⟨some d, .call { callee := .builtin .len, args := #[x], argTypes := #[t] }, ty, pos, aft, g⟩ (.int .i64 (es.length : Int)) := by
 intro n' D ac w hf hw
 have hb : w.heap[b]? = some (.map es.toArray cl) := hw.res _ hL.mem
 have hu := hT.1
 split at hd <;> first | (cases hd; done) | skip
 rename_i e he
 rw [he] at hu
 simp [execOp, resolve, invoke, builtin, hf.ev hx, Builtin.len_, run_underlying hu, run_getMap hb, goInt]
theorem updE_len (k : Int) (v : Value) (l : List MapEntry) (clock : Nat) : (updE k v l clock).1.length = if (valE k l).isSome then l.length else l.length + 1 := by
 unfold updE valE
 cases lookE k l 0 with
 | none => simp
 | some p => simp
theorem Stab.stneT {t u : TypeId} {i : TyI} {fs : Array Field} {x y : Operand} {m : Nat} (xs ys : List Int) (hx : ev fr x = some (ints xs)) (hy : ev fr y = some (ints ys)) (hT : HasTy P t i) (hd : i.desc = .struct fs) (hfl : flatT P 4 t = some m) (hg : P.eqGuardType P.depth t = false) (hlx : xs.length = m) (hly : ys.length = m) :
  Stab P fr M L ⟨some d, .binOp .neq t x y u, ty, pos, aft, g⟩ (.bool (decide (xs ≠ ys))) := by
 intro n' D ac w hf _
 have hu := hT.1
 rw [hd] at hu
 have h := run_eqT 4 hfl 10000 (by omega) w xs ys hlx hly
 unfold vT at h
 rw [hu] at h
 simp only [ints] at h hx hy
 simp only [execOp, hf.ev hx, hf.ev hy, Sem.run_bind, run_eqGuard_agg w .neq t x y _ _ hg, Result.andThen_ok, run_neq_struct, h, Sem.run_pure]
 simp
theorem Stab.steqT {t u : TypeId} {i : TyI} {fs : Array Field} {x y : Operand} {m : Nat} (xs ys : List Int) (hx : ev fr x = some (ints xs)) (hy : ev fr y = some (ints ys)) (hT : HasTy P t i) (hd : i.desc = .struct fs) (hfl : flatT P 4 t = some m) (hg : P.eqGuardType P.depth t = false) (hlx : xs.length = m) (hly : ys.length = m) :
  Stab P fr M L ⟨some d, .binOp .eql t x y u, ty, pos, aft, g⟩ (.bool (decide (xs = ys))) := by
 intro n' D ac w hf _
 have hu := hT.1
 rw [hd] at hu
 have h := run_eqT 4 hfl 10000 (by omega) w xs ys hlx hly
 unfold vT at h
 rw [hu] at h
 simp only [ints] at h hx hy
 simp only [execOp, hf.ev hx, hf.ev hy, Sem.run_bind, run_eqGuard_agg w .eql t x y _ _ hg, Result.andThen_ok, run_eql_struct, h, Sem.run_pure]
inductive IntsL : List Value → List Int → Prop
 | nil : IntsL [] []
 | cons {x : Int} {vs : List Value} {xs : List Int} (h : IntsL vs xs) : IntsL (.int .i64 x :: vs) (x :: xs)
theorem IntsL.eq {vs : List Value} {xs : List Int} (h : IntsL vs xs) : vs = xs.map (Value.int .i64) := by
 induction h with
 | nil => rfl
 | cons _ ih => rw [List.map_cons, ih]
theorem Stab.steqL {t u : TypeId} {i : TyI} {fs : Array Field} {x y : Operand} {m : Nat} {vs us : List Value} {xs ys : List Int} (hx : ev fr x = some (.agg vs.toArray)) (hy : ev fr y = some (.agg us.toArray)) (h1 : IntsL vs xs) (h2 : IntsL us ys) (hT : HasTy P t i) (hd : i.desc = .struct fs) (hfl : flatT P 4 t = some m) (hg : P.eqGuardType P.depth t = false) (hlx : vs.length = m) (hly : us.length = m) :
  Stab P fr M L ⟨some d, .binOp .eql t x y u, ty, pos, aft, g⟩ (.bool (decide (xs = ys))) := by
 obtain rfl := h1.eq
 obtain rfl := h2.eq
 exact Stab.steqT xs ys hx hy hT hd hfl hg (by simpa using hlx) (by simpa using hly)
theorem Stab.stneL {t u : TypeId} {i : TyI} {fs : Array Field} {x y : Operand} {m : Nat} {vs us : List Value} {xs ys : List Int} (hx : ev fr x = some (.agg vs.toArray)) (hy : ev fr y = some (.agg us.toArray)) (h1 : IntsL vs xs) (h2 : IntsL us ys) (hT : HasTy P t i) (hd : i.desc = .struct fs) (hfl : flatT P 4 t = some m) (hg : P.eqGuardType P.depth t = false) (hlx : vs.length = m) (hly : us.length = m) :
  Stab P fr M L ⟨some d, .binOp .neq t x y u, ty, pos, aft, g⟩ (.bool (decide (xs ≠ ys))) := by
 obtain rfl := h1.eq
 obtain rfl := h2.eq
 exact Stab.stneT xs ys hx hy hT hd hfl hg (by simpa using hlx) (by simpa using hly)
end
end Bf

