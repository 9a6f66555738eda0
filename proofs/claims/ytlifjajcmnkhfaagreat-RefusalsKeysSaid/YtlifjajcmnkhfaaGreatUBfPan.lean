/-
 Functions that may panic: their contracts, their calls, and their ends.
 Conditions: none; plain laws over any program.
-/
import Derived.Test.YtlifjajcmnkhfaaGreatUBfNum
import Derived.Test.YtlifjajcmnkhfaaGreatUBfFn
namespace Bf
open Go

def PostP (E : World) (F : List Res) (M : Mem) (R : Value → Mem → List Res → Prop) (RP : List PanicEntry → Mem → List Res → Prop) (e : Ending) (w : World) : Prop :=
 Post E F M R e w ∨ ∃ c M' A', e = .panicked c ∧ Mem.le M M' ∧ Own E M' (A' ++ F) w ∧ RP c M' A'
def FnP (P : Program) (f : FuncId) (args : List Value) (M : Mem) (A : List Res) (R : Value → Mem → List Res → Prop) (RP : List PanicEntry → Mem → List Res → Prop) : Prop :=
 CallOk P f ∧ ∀ E F w, Own E M (A ++ F) w → Calls P f args.toArray w (PostP E F M R RP)
theorem FnP.mono {P : Program} {f : FuncId} {args : List Value} {M : Mem} {A : List Res} {R R' : Value → Mem → List Res → Prop} {RP RP' : List PanicEntry → Mem → List Res → Prop} (h : FnP P f args M A R RP)
  (k : ∀ v M' A', Mem.le M M' → R v M' A' → R' v M' A') (kp : ∀ v M' A', Mem.le M M' → RP v M' A' → RP' v M' A') : FnP P f args M A R' RP' :=
 ⟨h.1, fun E F w hw => (h.2 E F w hw).mono fun _ _ h => h.imp (fun ⟨v, M', A', h1, h2, h3, h4⟩ => ⟨v, M', A', h1, h2, h3, k _ _ _ h2 h4⟩) (fun ⟨v, M', A', h1, h2, h3, h4⟩ => ⟨v, M', A', h1, h2, h3, kp _ _ _ h2 h4⟩)⟩
theorem FnP.intro {P : Program} {f : FuncId} {fn : Func} {c : Code} {vs : List Value} {M : Mem} {A : List Res} {R : Value → Mem → List Res → Prop} {RP : List PanicEntry → Mem → List Res → Prop} {n : Nat}
  (hf : P.funcs[f]? = some fn) (hb : fn.body = some c) (hname : (fn.name == "runtime.NumGoroutine") = false) (hn : fn.ntmps = n) (hl : Nat.ble vs.length n = true)
  (h : ∀ E F, Tr E ⟨n, argFr vs 0, [], M, A ++ F⟩ (c.wpIn (rf none) 0 P (bodyPost P fn (PostP E F M R RP)))) : FnP P f vs M A R RP := by
 refine ⟨⟨fn, hf, hname, by rw [hb]; rfl⟩, fun E F w hw => ?_⟩
 refine callsIn_wide.1 (callsIn_of_wp (n := 0) hf hb trivial (h E F _ _ ⟨⟨?_, ?_, rfl⟩, hw⟩) rfl)
 ·have := Nat.ble_eq.mp hl
  simp [hn]; omega
 ·intro k v hk
  obtain ⟨_, h2⟩ := look_argFr vs 0 k v hk
  have hlt := (List.getElem?_eq_some_iff.1 h2).1
  simp only [Nat.sub_zero] at h2 hlt
  rw [Array.getD_eq_getD_getElem?, Array.getElem?_append_left (by simpa using hlt)]
  simp [h2]
section
variable {r : Option Nat} {P : Program} {E : World} {fn : Func} {F : List Res} {M0 M : Mem} {n : Nat} {fr : Fr} {D : List Deferred} {L : List Res} {R : Value → Mem → List Res → Prop} {RP : List PanicEntry → Mem → List Res → Prop}
theorem Tr.ofPost {s : S} {X : Exit} (h : Tr E s (bodyPost P fn (Post E F M0 R) X)) : Tr E s (bodyPost P fn (PostP E F M0 R RP) X) := fun a w hs => by
 have := h a w hs
 cases X with
 | normal => exact let ⟨h1, v, h2, h3⟩ := this; ⟨h1, v, h2, .inl h3⟩
 | ret => exact let ⟨h1, v, h2, h3⟩ := this; ⟨h1, v, h2, .inl h3⟩
 | panic c => exact let ⟨h1, h2⟩ := this; ⟨h1, .inl h2⟩
 | outgrown => exact .inl this
 | exit i => exact this
 | goto i => exact this
theorem Tr.doneB {fn : Func} {A' : List Res} {rs : List ResultVar} {vs : List Value} {X : Exit} (B : List Res) (hX : X = .ret ∨ X = .normal) (hr : fn.results = rs.toArray) (h : RVs P fr L rs vs) (hm : Mem.le M0 M) (hL : L.Perm (B ++ (A' ++ F))) (hR : R (resVal vs) M A') :
  Tr E ⟨n, fr, [], M, L⟩ (bodyPost P fn (Post E F M0 R) X) :=
 Tr.doneA hX hr h hm ⟨fun r hr => hL.symm.subset (List.mem_append_right _ hr), fun hn => by
  have := (List.Perm.flatMap_right (·.blks) hL).nodup_iff.1 hn
  rw [List.flatMap_append] at this
  exact (List.nodup_append.1 this).2.1⟩ hR
theorem Tr.doneP {c : List PanicEntry} {A' : List Res} (hm : Mem.le M0 M) (hL : DropL L (A' ++ F)) (hR : RP c M A') : Tr E ⟨n, fr, [], M, L⟩ (bodyPost P fn (PostP E F M0 R RP) (.panic c)) := fun a w hs => by
 have ho : Own E M (A' ++ F) w := by
  have := hs.own
  clear hs hR
  generalize A' ++ F = L' at hL ⊢
  induction hL with
  | refl => exact this
  | skip _ ih => exact ih this.drop
 exact ⟨hs.fits.defers, .inr ⟨c, M, A', rfl, hm, ho, hR⟩⟩
variable {Q : Exit → Act → World → Prop} {K : S → Prop}
theorem Tr.then_panic {s : S} {X : Act → World → Prop} {c : List PanicEntry} (h : Tr E s (Q (.panic c))) : Tr E s (Exit.then X Q (.panic c)) := h
variable {ty : TypeId} {pos : String} {aft : Array Edge} {g : Option (Nat × Bool)}
theorem Exec.callPv {f : FuncId} {x : Operand} {xs : List Operand} {ts : Array TypeId} {first vs cap : List Value} {A F : List Res} {d : Nat}
  (hx : ev fr x = some (.func (.func f) first.toArray cap.toArray)) (hv : evL fr xs = some vs) (hf : FnP P f (first ++ vs ++ cap) M A R RP) (hp : (A ++ F).Perm L) (hn : Nat.blt d n = true)
  (k : ∀ v M' A', Mem.le M M' → R v M' A' → K ⟨n, (d, v) :: fr, D, M', A' ++ F⟩) (kp : ∀ c M' A', Mem.le M M' → RP c M' A' → Tr E ⟨n, fr, D, M', A' ++ F⟩ (Q (.panic c))) :
  Exec r P E Q ⟨n, fr, D, M, L⟩ ⟨some d, .call { callee := .value x, args := xs.toArray, argTypes := ts }, ty, pos, aft, g⟩ K := fun a w hs => by
 have hargs : xs.toArray.map a.eval = vs.toArray := by simp [evL_map hs.fits hv]
 have hrun : (execOp a.eval ⟨some d, .call { callee := .value x, args := xs.toArray, argTypes := ts }, ty, pos, aft, g⟩).run P w = .ok (.enter f (first ++ vs ++ cap).toArray) w := by
  simp only [execOp, resolve, hs.fits.ev hx, Deferred.ofValue, hargs, Sem.run_bind, Sem.run_pure, Result.andThen_ok, invoke]
  rw [run_call hf.1]
  simp
 refine wpIn_of_run hrun (fun _ h => by cases h) ?_
 refine ⟨fun h => by simp [rf] at h, ?_⟩
 refine CallsIn.mono (callsIn_rf (hf.2 E F w (hs.own.perm hp))) ?_
 rintro e w' (⟨v, M', A', rfl, h2, h3, h4⟩ | ⟨c, M', A', rfl, h2, h3, h4⟩)
 ·exact ⟨_, ⟨hs.fits.put hn v, h3⟩, k v M' A' h2 h4⟩
 ·exact kp c M' A' h2 h4 a w' ⟨hs.fits, h3⟩
theorem Exec.callP {f : FuncId} {xs : List Operand} {ts : Array TypeId} {vs : List Value} {A F : List Res} {d : Nat} (hv : evL fr xs = some vs) (hf : FnP P f vs M A R RP) (hp : (A ++ F).Perm L) (hn : Nat.blt d n = true)
  (k : ∀ v M' A', Mem.le M M' → R v M' A' → K ⟨n, (d, v) :: fr, D, M', A' ++ F⟩) (kp : ∀ c M' A', Mem.le M M' → RP c M' A' → Tr E ⟨n, fr, D, M', A' ++ F⟩ (Q (.panic c))) :
  Exec r P E Q ⟨n, fr, D, M, L⟩ ⟨some d, .call { callee := .value (.func f), args := xs.toArray, argTypes := ts }, ty, pos, aft, g⟩ K :=
 Exec.callPv (first := []) (cap := []) (x := .func f) rfl hv (by simpa using hf) hp hn k kp
theorem Exec.callv {f : FuncId} {x : Operand} {xs : List Operand} {ts : Array TypeId} {first vs cap : List Value} {A F : List Res} {d : Nat}
  (hx : ev fr x = some (.func (.func f) first.toArray cap.toArray)) (hv : evL fr xs = some vs) (hf : Fn P f (first ++ vs ++ cap) M A R) (hp : (A ++ F).Perm L) (hn : Nat.blt d n = true)
  (k : ∀ v M' A', Mem.le M M' → R v M' A' → K ⟨n, (d, v) :: fr, D, M', A' ++ F⟩) :
  Exec r P E Q ⟨n, fr, D, M, L⟩ ⟨some d, .call { callee := .value x, args := xs.toArray, argTypes := ts }, ty, pos, aft, g⟩ K :=
 Exec.calld hx hv hf hp fun v M' A' h1 h2 _ ha => ⟨_, ha.put hn v, k v M' A' h1 h2⟩
end
end Bf

