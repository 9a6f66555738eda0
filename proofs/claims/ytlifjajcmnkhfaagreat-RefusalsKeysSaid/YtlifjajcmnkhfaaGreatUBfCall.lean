/-
 Contracts of functions, calls, returns and loops in the small logic.
 Conditions: none; plain laws over any program.
-/
import Derived.Test.YtlifjajcmnkhfaaGreatUBfEff
namespace Bf
open Go

def CallOk (P : Program) (f : FuncId) : Prop := ∃ fn, P.funcs[f]? = some fn ∧ (fn.name == "runtime.NumGoroutine") = false ∧ fn.body.isNone = false

def Fn (P : Program) (f : FuncId) (args : List Value) (M : Mem) (A : List Res) (R : Value → Mem → List Res → Prop) : Prop :=
 CallOk P f ∧ ∀ E F w, Own E M (A ++ F) w → Calls P f args.toArray w fun e w' => ∃ v M' A', e = .returned v ∧ Mem.le M M' ∧ Own E M' (A' ++ F) w' ∧ R v M' A'
def Fn0 (P : Program) (f : FuncId) (args : List Value) (M : Mem) (R : Value → Mem → Prop) : Prop := Fn P f args M [] fun v M' A' => A' = [] ∧ R v M'

theorem Fn.mono {P : Program} {f : FuncId} {args : List Value} {M : Mem} {A : List Res} {R R' : Value → Mem → List Res → Prop} (h : Fn P f args M A R) (k : ∀ v M' A', Mem.le M M' → R v M' A' → R' v M' A') : Fn P f args M A R' :=
 ⟨h.1, fun E F w hw => (h.2 E F w hw).mono fun _ _ ⟨v, M', A', h1, h2, h3, h4⟩ => ⟨v, M', A', h1, h2, h3, k _ _ _ h2 h4⟩⟩
theorem Fn0.mono {P : Program} {f : FuncId} {args : List Value} {M : Mem} {R R' : Value → Mem → Prop} (h : Fn0 P f args M R) (k : ∀ v M', Mem.le M M' → R v M' → R' v M') : Fn0 P f args M R' :=
 Fn.mono h fun _ _ _ hm ⟨h1, h2⟩ => ⟨h1, k _ _ hm h2⟩

def argFr : List Value → Nat → Fr
 | [], _ => []
 | v :: r, k => (k, v) :: argFr r (k + 1)
theorem look_argFr : ∀ (vs : List Value) (k j : Nat) (v : Value), look (argFr vs k) j = some v → k ≤ j ∧ vs[j - k]? = some v
 | [], _, _, _, h => by cases h
 | u :: r, k, j, v, h => by
  unfold argFr look at h
  cases hb : Nat.beq k j with
  | true =>
   rw [hb] at h
   have : k = j := Nat.eq_of_beq_eq_true hb
   subst this
   simpa using h
  | false =>
   rw [hb] at h
   obtain ⟨h1, h2⟩ := look_argFr r (k + 1) j v h
   refine ⟨by omega, ?_⟩
   rw [show j - k = (j - (k + 1)) + 1 by omega]
   simpa using h2

def Post (E : World) (F : List Res) (M : Mem) (R : Value → Mem → List Res → Prop) (e : Ending) (w : World) : Prop :=
 ∃ v M' A', e = .returned v ∧ Mem.le M M' ∧ Own E M' (A' ++ F) w ∧ R v M' A'

theorem Fn.intro {P : Program} {f : FuncId} {fn : Func} {c : Code} {vs : List Value} {M : Mem} {A : List Res} {R : Value → Mem → List Res → Prop} {n : Nat}
  (hf : P.funcs[f]? = some fn) (hb : fn.body = some c) (hname : (fn.name == "runtime.NumGoroutine") = false) (hn : fn.ntmps = n) (hl : Nat.ble vs.length n = true)
  (h : ∀ E F, Tr E ⟨n, argFr vs 0, [], M, A ++ F⟩ (c.wpIn (rf none) 0 P (bodyPost P fn (Post E F M R)))) : Fn P f vs M A R := by
 refine ⟨⟨fn, hf, hname, by rw [hb]; rfl⟩, fun E F w hw => ?_⟩
 refine callsIn_wide.1 (callsIn_of_wp (n := 0) hf hb trivial (h E F _ _ ⟨⟨?_, ?_, rfl⟩, hw⟩) rfl)
 ·have := Nat.ble_eq.mp hl
  simp [hn]; omega
 ·intro k v hk
  obtain ⟨_, h2⟩ := look_argFr vs 0 k v hk
  have hlt := (List.getElem?_eq_some_iff.1 h2).1
  simp only [Nat.sub_zero] at h2 hlt
  rw [Array.getD_eq_getD_getElem?, Array.getElem?_append_left (by simpa using hlt)]
  simp [h2]

inductive RV (P : Program) (fr : Fr) (L : List Res) : ResultVar → Value → Prop
 | tmp {t : Tmp} {v : Value} (h : look fr t = some v) : RV P fr L (.tmp t) v
 | cellW {t : Tmp} {T b t0 : Nat} {i : TyI} {cs : List Value} (h : look fr t = some (.pointer (some ⟨b, 0, none⟩))) (hT : HasTy P T i) (ha : TypeDesc.agg i.desc = true) (hL : Has L (box b t0 cs)) (hl : cs.length = i.size) :
   RV P fr L (.cell t T) (.agg cs.toArray)
 | cell {t : Tmp} {T b t0 : Nat} {i : TyI} {v : Value} (h : look fr t = some (.pointer (some ⟨b, 0, none⟩))) (hT : HasTy P T i) (ha : TypeDesc.agg i.desc = false) (hL : Has L (box b t0 [v])) :
   RV P fr L (.cell t T) v
def resOf (tmps : Array Value) : ResultVar → Sem Value
 | .tmp t => pure (tmps.getD t undef)
 | .cell ad t => do loadVar t (← asAddr (tmps.getD ad undef))
theorem RV.run {P : Program} {fr : Fr} {M : Mem} {L : List Res} {r : ResultVar} {v : Value} (h : RV P fr L r v) {n : Nat} {D : List Deferred} {a : Act} {w : World} (hf : Fits n fr D a) (hk : KH M L w) :
  (resOf a.tmps r).run P w = .ok v w := by
 cases h with
 | tmp h => simp only [resOf, hf.get _ _ h, Sem.run_pure]
 | @cellW t T b t0 i cs h hT ha hL hl =>
  have hc : ∀ j v, cs[j]? = some v → w.cell? ((⟨b, 0, none⟩ : Addr).add j) = some v := fun j v hj => by
   rw [Addr.add_lit, Nat.zero_add, box_cell (hk.res _ hL.mem)]; exact hj
  simp only [resOf, hf.get _ _ h, asAddr, Sem.run_bind, Sem.run_pure, Result.andThen_ok, loadVar_agg hT ha hl hc]
 | @cell t T b t0 i v h hT ha hL =>
  have hc : w.cell? ⟨b, 0, none⟩ = some v := by rw [box_cell (hk.res _ hL.mem)]; rfl
  simp only [resOf, hf.get _ _ h, asAddr, Sem.run_bind, Sem.run_pure, Result.andThen_ok, loadVar_scalar hT ha hc]
inductive RVs (P : Program) (fr : Fr) (L : List Res) : List ResultVar → List Value → Prop
 | nil : RVs P fr L [] []
 | cons {r : ResultVar} {rs : List ResultVar} {v : Value} {vs : List Value} (h : RV P fr L r v) (t : RVs P fr L rs vs) : RVs P fr L (r :: rs) (v :: vs)
theorem RVs.run {P : Program} {fr : Fr} {M : Mem} {L : List Res} {rs : List ResultVar} {vs : List Value} (h : RVs P fr L rs vs) {n : Nat} {D : List Deferred} {a : Act} {w : World} (hf : Fits n fr D a) (hk : KH M L w) :
  (rs.mapM (resOf a.tmps)).run P w = .ok vs w := by
 induction h with
 | nil => simp
 | cons h _ ih =>
  have h1 := h.run hf hk
  simp only [List.mapM_cons, Sem.run_bind, h1, Result.andThen_ok, ih, Sem.run_pure]

def resVal : List Value → Value
 | [v] => v
 | vs => .tuple vs.toArray
theorem run_results {P : Program} {fn : Func} {rs : List ResultVar} (hr : fn.results = rs.toArray) {fr : Fr} {M : Mem} {L : List Res} {vs : List Value} (h : RVs P fr L rs vs) {n : Nat} {D : List Deferred} {a : Act} {w : World} (hf : Fits n fr D a) (hk : KH M L w) :
  (results fn a.tmps).run P w = .ok (resVal vs) w := by
 have e : results fn a.tmps = (do let vs ← fn.results.mapM (resOf a.tmps); pure (if h : vs.size = 1 then vs[0] else .tuple vs)) := by
  unfold results
  congr 1
  all_goals (congr 1; funext x; cases x <;> rfl)
 rw [e, hr, List.mapM_toArray, Sem.run_bind, Sem.run_map, h.run hf hk]
 simp only [Result.andThen_ok, Sem.run_pure]
 congr 1
 cases vs with
 | nil => simp [resVal]
 | cons v r =>
  cases r with
  | nil => simp [resVal]
  | cons u r => simp [resVal]

section ret
variable {r : Option Nat} {P : Program} {E : World} {fn : Func} {F : List Res} {M0 M M' : Mem} {n : Nat} {fr : Fr} {L A' : List Res} {R : Value → Mem → List Res → Prop} {rs : List ResultVar} {vs : List Value}

theorem Tr.done {X : Exit} (hX : X = .ret ∨ X = .normal) (hr : fn.results = rs.toArray) (h : RVs P fr L rs vs) (hm : Mem.le M0 M) (hL : ∃ B, L = B ++ F) (hR : R (resVal vs) M []) :
  Tr E ⟨n, fr, [], M, L⟩ (bodyPost P fn (Post E F M0 R) X) := fun a w hs => by
 have hres := run_results hr h hs.fits hs.own.kh
 obtain ⟨B, rfl⟩ := hL
 have ho : Own E M F w := by
  have := hs.own
  clear hs hres h hr hR
  induction B with
  | nil => exact this
  | cons x B ih => exact ih this.drop
 have : a.defers = [] ∧ ∃ v, (results fn a.tmps).run P w = .ok v w ∧ Post E F M0 R (.returned v) w :=
  ⟨hs.fits.defers, _, hres, _, M, [], rfl, hm, ho, hR⟩
 rcases hX with rfl | rfl <;> exact this
theorem Tr.doneA {X : Exit} (hX : X = .ret ∨ X = .normal) (hr : fn.results = rs.toArray) (h : RVs P fr L rs vs) (hm : Mem.le M0 M) (hL : (∀ r ∈ A' ++ F, r ∈ L) ∧ ((L.flatMap (·.blks)).Nodup → ((A' ++ F).flatMap (·.blks)).Nodup)) (hR : R (resVal vs) M A') :
  Tr E ⟨n, fr, [], M, L⟩ (bodyPost P fn (Post E F M0 R) X) := fun a w hs => by
 have hres := run_results hr h hs.fits hs.own.kh
 have ho : Own E M (A' ++ F) w := hs.own.sub hL.1 (hL.2 hs.own.nd)
 have : a.defers = [] ∧ ∃ v, (results fn a.tmps).run P w = .ok v w ∧ Post E F M0 R (.returned v) w :=
  ⟨hs.fits.defers, _, hres, _, M, A', rfl, hm, ho, hR⟩
 rcases hX with rfl | rfl <;> exact this
end ret

def evL (fr : Fr) : List Operand → Option (List Value)
 | [] => some []
 | x :: r => match ev fr x with
  | some v => (match evL fr r with | some vs => some (v :: vs) | none => none)
  | none => none
theorem evL_map {n : Nat} {fr : Fr} {D : List Deferred} {a : Act} (hf : Fits n fr D a) : ∀ {xs : List Operand} {vs : List Value}, evL fr xs = some vs → xs.map a.eval = vs
 | [], vs, h => by simp only [evL, Option.some.injEq] at h; subst h; rfl
 | x :: r, vs, h => by
  unfold evL at h
  cases hx : ev fr x with
  | none => rw [hx] at h; cases h
  | some v =>
   rw [hx] at h
   cases hr : evL fr r with
   | none => rw [hr] at h; cases h
   | some us =>
    rw [hr] at h
    simp only [Option.some.injEq] at h
    subst h
    simp [hf.ev hx, evL_map hf hr]

section call
variable {r : Option Nat} {P : Program} {E : World} {Q : Exit → Act → World → Prop} {n : Nat} {fr : Fr} {D : List Deferred} {M : Mem} {L : List Res} {K : S → Prop}
variable {ty : TypeId} {pos : String} {aft : Array Edge} {g : Option (Nat × Bool)}

theorem run_call {f : FuncId} (hc : CallOk P f) (args : Array Value) (w : World) : (callFunc f args).run P w = .ok (.enter f args) w := by
 obtain ⟨fn, h1, h2, h3⟩ := hc
 simp only [callFunc, Sem.run_bind, run_program, Result.andThen_ok, h1, h2, h3, Bool.false_eq_true, if_false, Sem.run_pure]

theorem callsIn_rf {n : Nat} {f : FuncId} {args : Array Value} {w : World} {R : Ending → World → Prop} (h : Calls P f args w R) : CallsIn (rf r) n P f args w R := (callsIn_wide (n := n)).2 h
theorem Exec.calld {f : FuncId} {x : Operand} {xs : List Operand} {ts : Array TypeId} {first vs cap : List Value} {A F : List Res} {R : Value → Mem → List Res → Prop} {dst : Option Tmp}
  (hx : ev fr x = some (.func (.func f) first.toArray cap.toArray)) (hv : evL fr xs = some vs) (hf : Fn P f (first ++ vs ++ cap) M A R) (hp : (A ++ F).Perm L)
  (k : ∀ v M' A', Mem.le M M' → R v M' A' → ∀ a : Act, Fits n fr D a → ∃ fr', Fits n fr' D (a.put dst v) ∧ K ⟨n, fr', D, M', A' ++ F⟩) :
  Exec r P E Q ⟨n, fr, D, M, L⟩ ⟨dst, .call { callee := .value x, args := xs.toArray, argTypes := ts }, ty, pos, aft, g⟩ K := fun a w hs => by
 have hargs : xs.toArray.map a.eval = vs.toArray := by simp [evL_map hs.fits hv]
 have hrun : (execOp a.eval ⟨dst, .call { callee := .value x, args := xs.toArray, argTypes := ts }, ty, pos, aft, g⟩).run P w = .ok (.enter f (first ++ vs ++ cap).toArray) w := by
  simp only [execOp, resolve, hs.fits.ev hx, Deferred.ofValue, hargs, Sem.run_bind, Sem.run_pure, Result.andThen_ok, invoke]
  rw [run_call hf.1]
  simp
 refine wpIn_of_run hrun (fun _ h => by cases h) ?_
 refine ⟨fun h => by simp [rf] at h, ?_⟩
 refine CallsIn.mono (callsIn_rf (hf.2 E F w (hs.own.perm hp))) ?_
 rintro e w' ⟨v, M', A', rfl, h2, h3, h4⟩
 obtain ⟨fr', h5, h6⟩ := k v M' A' h2 h4 a hs.fits
 exact ⟨_, ⟨h5, h3⟩, h6⟩


theorem Exec.call {f : FuncId} {xs : List Operand} {ts : Array TypeId} {vs : List Value} {A F : List Res} {R : Value → Mem → List Res → Prop} {d : Nat} (hv : evL fr xs = some vs) (hf : Fn P f vs M A R) (hp : (A ++ F).Perm L) (hn : Nat.blt d n = true)
  (k : ∀ v M' A', Mem.le M M' → R v M' A' → K ⟨n, (d, v) :: fr, D, M', A' ++ F⟩) :
  Exec r P E Q ⟨n, fr, D, M, L⟩ ⟨some d, .call { callee := .value (.func f), args := xs.toArray, argTypes := ts }, ty, pos, aft, g⟩ K :=
 Exec.calld (first := []) (cap := []) (x := .func f) rfl hv (by simpa using hf) hp fun v M' A' h1 h2 a ha => ⟨_, ha.put hn v, k v M' A' h1 h2⟩
theorem Exec.call0 {f : FuncId} {xs : List Operand} {ts : Array TypeId} {vs : List Value} {R : Value → Mem → Prop} {d : Nat} (hv : evL fr xs = some vs) (hf : Fn0 P f vs M R) (hn : Nat.blt d n = true)
  (k : ∀ v M', Mem.le M M' → R v M' → K ⟨n, (d, v) :: fr, D, M', L⟩) :
  Exec r P E Q ⟨n, fr, D, M, L⟩ ⟨some d, .call { callee := .value (.func f), args := xs.toArray, argTypes := ts }, ty, pos, aft, g⟩ K :=
 Exec.call hv hf (List.Perm.refl _) hn fun v M' A' h1 ⟨h2, h3⟩ => by subst h2; exact k v M' h1 h3
end call

theorem least {p : Nat → Prop} (h : ∃ m, p m) : ∃ m, p m ∧ ∀ k, p k → m ≤ k := by
 obtain ⟨m, hm⟩ := h
 induction m using Nat.strongRecOn with
 | _ m ih =>
  by_cases hk : ∃ k, k < m ∧ p k
  ·obtain ⟨k, h1, h2⟩ := hk
   exact ih k h1 h2
  ·refine ⟨m, hm, fun k hpk => ?_⟩
   rcases Nat.lt_or_ge k m with h1 | h1
   ·exact absurd ⟨k, h1, hpk⟩ hk
   ·exact h1
def Again {α : Type} (E : World) (J : α → S) (C : α → Prop) (μ : α → Nat) (x : α) (a : Act) (w : World) : Prop := ∃ y, C y ∧ μ y < μ x ∧ (J y).holds E a w
theorem Tr.again {α : Type} {E : World} {J : α → S} {C : α → Prop} {μ : α → Nat} {x : α} {s : S} (y : α) (hC : C y) (hμ : μ y < μ x) (h : ∀ a w, s.holds E a w → (J y).holds E a w) : Tr E s (Again E J C μ x) :=
 fun a w hs => ⟨y, hC, hμ, h a w hs⟩
theorem Tr.loop {α : Type} {r : Option Nat} {P : Program} {E : World} {Q : Exit → Act → World → Prop} {s : S} {c : Code} (J : α → S) (C : α → Prop) (μ : α → Nat) (x₀ : α) (hC : C x₀) (h₀ : ∀ a w, s.holds E a w → (J x₀).holds E a w)
  (round : ∀ x, C x → Tr E (J x) (c.wpIn (rf r) 0 P (Exit.then (Again E J C μ x) Q))) : Tr E s ((Code.loop c).wpIn (rf r) 0 P Q) := fun a w hs => by
 classical
 -- the least measure among the states that fit
 let p : Act → World → Nat → Prop := fun a w m => ∃ x, C x ∧ (J x).holds E a w ∧ μ x = m
 let I : Act → World → Prop := fun a w => ∃ m, p a w m
 let ν : Act → World → Nat := fun a w => if h : ∃ m, p a w m then Classical.choose (least h) else 0
 refine wpIn_loop I ν ⟨_, x₀, hC, h₀ a w hs, rfl⟩ ?_
 intro a w hex
 have hν : ν a w = Classical.choose (least hex) := by simp only [ν]; rw [dif_pos hex]
 obtain ⟨⟨y, hy, hjy, hμ⟩, _⟩ := Classical.choose_spec (least hex)
 refine wpIn_mono (round y hy a w hjy) ?_
 intro e a' w' hq
 cases e with
 | normal =>
  obtain ⟨z, hz, hlt, hjz⟩ := hq
  have hpz : p a' w' (μ z) := ⟨z, hz, hjz, rfl⟩
  refine ⟨⟨_, hpz⟩, ?_⟩
  have hν' : ν a' w' = Classical.choose (least ⟨_, hpz⟩) := by simp only [ν]; rw [dif_pos ⟨_, hpz⟩]
  have := (Classical.choose_spec (least ⟨_, hpz⟩)).2 _ hpz
  rw [hν, hν']
  omega
 | _ => exact hq

theorem Tr.weaken {E : World} {s s' : S} {X : Act → World → Prop} (h : ∀ a w, s.holds E a w → s'.holds E a w) (k : Tr E s' X) : Tr E s X := fun a w hs => k a w (h a w hs)
theorem holds_of {E : World} {n : Nat} {fr fr' : Fr} {D : List Deferred} {M : Mem} {L : List Res} (h : ∀ p ∈ fr', look fr p.1 = some p.2) (a : Act) (w : World) (hs : S.holds E ⟨n, fr, D, M, L⟩ a w) : S.holds E ⟨n, fr', D, M, L⟩ a w := by
 refine ⟨hs.fits.sub ?_, hs.own⟩
 intro k v hk
 have : (k, v) ∈ fr' := by
  clear h
  induction fr' with
  | nil => cases hk
  | cons p r ih =>
   obtain ⟨j, u⟩ := p
   unfold look at hk
   cases hb : Nat.beq j k with
   | true =>
    rw [hb] at hk
    simp only [cond_true, Option.some.injEq] at hk
    subst hk
    have : j = k := Nat.eq_of_beq_eq_true hb
    subst this
    simp
   | false =>
    rw [hb] at hk
    simp [ih hk]
 exact h _ this
inductive Del : List Res → Res → List Res → Prop
 | here {r : Res} {L : List Res} : Del (r :: L) r L
 | there {x r : Res} {L L' : List Res} (h : Del L r L') : Del (x :: L) r (x :: L')
theorem Del.perm {L L' : List Res} {r : Res} (h : Del L r L') : (r :: L').Perm L := by
 induction h with
 | here => exact List.Perm.refl _
 | there _ ih => exact (List.Perm.swap _ _ _).trans (ih.cons _)
theorem Tr.publish {E : World} {n : Nat} {fr : Fr} {D : List Deferred} {M : Mem} {L L' : List Res} {r : Res} {X : Act → World → Prop} (hd : Del L r L')
  (k : ∀ M', Mem.le M M' → r.ok M' → Tr E ⟨n, fr, D, M', L'⟩ X) : Tr E ⟨n, fr, D, M, L⟩ X := fun a w hs => by
 obtain ⟨M', h1, h2, h3, _⟩ := (hs.own.perm hd.perm).publish
 exact k M' h2 h3 a w ⟨hs.fits, h1⟩
theorem Tr.give {E : World} {n : Nat} {fr : Fr} {D : List Deferred} {M : Mem} {L L' : List Res} {r : Res} {X : Act → World → Prop} (hd : Del L r L')
  (k : Tr E ⟨n, fr, D, M, L'⟩ X) : Tr E ⟨n, fr, D, M, L⟩ X := fun a w hs => k a w ⟨hs.fits, (hs.own.perm hd.perm).drop⟩
end Bf

