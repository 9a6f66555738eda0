/-
 One deferred closure that recovers: how a function with it is entered and left.
 Conditions: none; plain laws over any program.
-/
import Derived.Test.YtlifjajcmnkhfaaGreatUBfOpt
namespace Bf
open Go
section
variable {r : Option Nat} {P : Program} {E : World} {Q : Exit → Act → World → Prop} {n : Nat} {fr : Fr} {D : List Deferred} {M M0 : Mem} {L F : List Res} {K : S → Prop}
variable {d : Nat} {ty : TypeId} {pos : String} {aft : Array Edge} {g : Option (Nat × Bool)}
theorem Exec.defer {f : FuncId} {x : Operand} {xs : List Operand} {ts : Array TypeId} {first vs cap : List Value} (hx : ev fr x = some (.func (.func f) first.toArray cap.toArray)) (hv : evL fr xs = some vs)
  (k : K ⟨n, fr, { target := .fn (.func f) cap.toArray, args := (first ++ vs).toArray } :: D, M, L⟩) :
  Exec none P E Q ⟨n, fr, D, M, L⟩ ⟨none, .defer { callee := .value x, args := xs.toArray, argTypes := ts }, ty, pos, aft, g⟩ K := fun a w hs => by
 have hargs : xs.toArray.map a.eval = vs.toArray := by simp [evL_map hs.fits hv]
 have hrun : (Oper.semAt none a.eval ⟨none, .defer { callee := .value x, args := xs.toArray, argTypes := ts }, ty, pos, aft, g⟩).run P w = .ok (.defer { target := .fn (.func f) cap.toArray, args := (first ++ vs).toArray }) w := by
  rw [Oper.semAt_none]
  simp only [execOp, resolve, hs.fits.ev hx, Deferred.ofValue, hargs, Sem.run_bind, Sem.run_pure, Result.andThen_ok]
  simp
 refine ⟨fun _ _ => trivial, ?_⟩
 show Oper.uponIn (rf none) 0 P _ a _ Q ((Oper.semAt none a.eval _).run P w)
 rw [hrun]
 exact ⟨⟨n, fr, { target := .fn (.func f) cap.toArray, args := (first ++ vs).toArray } :: D, M, L⟩, ⟨⟨hs.fits.size, hs.fits.get, congrArg (_ :: ·) hs.fits.defers⟩, hs.own⟩, k⟩
def CD (P : Program) (f : FuncId) (args : List Value) (u : FrameMode) (M : Mem) (A : List Res) (R : FrameMode → Mem → List Res → Prop) : Prop :=
 CallOk P f ∧ ∀ E F w, Own E M (A ++ F) w → CallsD P f args.toArray u w fun e u' w' => ∃ v M' A', e = .returned v ∧ Mem.le M M' ∧ Own E M' (A' ++ F) w' ∧ R u' M' A'
theorem Fn.introD {f : FuncId} {fn : Func} {c : Code} {vs : List Value} {M : Mem} {A : List Res} {R : Value → Mem → List Res → Prop} {n : Nat}
  (hf : P.funcs[f]? = some fn) (hb : fn.body = some c) (hname : (fn.name == "runtime.NumGoroutine") = false) (hn : fn.ntmps = n) (hl : Nat.ble vs.length n = true)
  (h : ∀ E F, Tr E ⟨n, argFr vs 0, [], M, A ++ F⟩ (c.wpIn (rf none) 0 P (bodyPostD P fn (Post E F M R)))) : Fn P f vs M A R := by
 refine ⟨⟨fn, hf, hname, by rw [hb]; rfl⟩, fun E F w hw => ?_⟩
 refine calls_of_wp_defers hf hb (wpIn_wide.1 (h E F _ _ ⟨⟨?_, ?_, rfl⟩, hw⟩))
 ·have := Nat.ble_eq.mp hl
  simp [hn]; omega
 ·intro k v hk
  obtain ⟨_, h2⟩ := look_argFr vs 0 k v hk
  have hlt := (List.getElem?_eq_some_iff.1 h2).1
  simp only [Nat.sub_zero] at h2 hlt
  rw [Array.getD_eq_getD_getElem?, Array.getElem?_append_left (by simpa using hlt)]
  simp [h2]
theorem leaves1 {fn : Func} {f : FuncId} {vs0 cap : List Value} {A F1 : List Res} {R : Value → Mem → List Res → Prop} {RC : FrameMode → Mem → List Res → Prop} {rs : List ResultVar} {u : FrameMode} {a : Act} {w : World}
  (hu : u ≠ .run) (hc : CD P f (vs0 ++ cap) u M A RC) (hfit : Fits n fr D a) (hw : Own E M (A ++ F1) w) (hr : fn.results = rs.toArray)
  (k : ∀ u' M' A', Mem.le M M' → RC u' M' A' → settle u' = .returning ∧ ∃ vs, RVs P fr (A' ++ F1) rs vs ∧ Mem.le M0 M' ∧ (∃ B A2, (A' ++ F1).Perm (B ++ (A2 ++ F)) ∧ R (resVal vs) M' A2)) :
  Leaves P fn a.tmps (Post E F M0 R) [{ target := .fn (.func f) cap.toArray, args := vs0.toArray }] u w := by
 refine leaves_cons (f := f) (args := (vs0 ++ cap).toArray) hu ?_ ?_
 ·simp only [invoke]
  rw [run_call hc.1]
  simp
 ·refine (hc.2 E F1 w hw).mono ?_
  rintro e u' w' ⟨v, M', A', rfl, hm, ho, hR⟩
  obtain ⟨hs, vs, hv, hm0, B, A2, hp, hR2⟩ := k u' M' A' hm hR
  show Leaves P fn a.tmps (Post E F M0 R) [] (settle u') w'
  rw [hs]
  refine ⟨_, run_results hr hv hfit ho.kh, _, M', A2, rfl, hm0, ?_, hR2⟩
  have := ho.perm hp.symm
  clear hp
  induction B with
  | nil => exact this
  | cons x B ih => exact ih this.drop
theorem Tr.doneD {fn : Func} {f : FuncId} {vs0 cap : List Value} {A F1 : List Res} {R : Value → Mem → List Res → Prop} {RC : FrameMode → Mem → List Res → Prop} {rs : List ResultVar} {X : Exit} (hX : X = .ret ∨ X = .normal)
  (hc : CD P f (vs0 ++ cap) .returning M A RC) (hp : (A ++ F1).Perm L) (hr : fn.results = rs.toArray)
  (k : ∀ u' M' A', Mem.le M M' → RC u' M' A' → settle u' = .returning ∧ ∃ vs, RVs P fr (A' ++ F1) rs vs ∧ Mem.le M0 M' ∧ (∃ B A2, (A' ++ F1).Perm (B ++ (A2 ++ F)) ∧ R (resVal vs) M' A2)) :
  Tr E ⟨n, fr, [{ target := .fn (.func f) cap.toArray, args := vs0.toArray }], M, L⟩ (bodyPostD P fn (Post E F M0 R) X) := fun a w hs => by
 have h := leaves1 (M0 := M0) (F := F) (R := R) (u := .returning) (by simp) hc hs.fits (hs.own.perm hp) hr k
 have hd : a.defers = [{ target := .fn (.func f) cap.toArray, args := vs0.toArray }] := hs.fits.defers
 rw [← hd] at h
 rcases hX with rfl | rfl <;> exact h
theorem Tr.panicD {fn : Func} {f : FuncId} {vs0 cap : List Value} {A F1 : List Res} {R : Value → Mem → List Res → Prop} {RC : FrameMode → Mem → List Res → Prop} {rs : List ResultVar} {ch : List PanicEntry}
  (hc : CD P f (vs0 ++ cap) (.panicking ch) M A RC) (hp : (A ++ F1).Perm L) (hr : fn.results = rs.toArray)
  (k : ∀ u' M' A', Mem.le M M' → RC u' M' A' → settle u' = .returning ∧ ∃ vs, RVs P fr (A' ++ F1) rs vs ∧ Mem.le M0 M' ∧ (∃ B A2, (A' ++ F1).Perm (B ++ (A2 ++ F)) ∧ R (resVal vs) M' A2)) :
  Tr E ⟨n, fr, [{ target := .fn (.func f) cap.toArray, args := vs0.toArray }], M, L⟩ (bodyPostD P fn (Post E F M0 R) (.panic ch)) := fun a w hs => by
 have h := leaves1 (M0 := M0) (F := F) (R := R) (u := .panicking ch) (by simp) hc hs.fits (hs.own.perm hp) hr k
 have hd : a.defers = [{ target := .fn (.func f) cap.toArray, args := vs0.toArray }] := hs.fits.defers
 rw [← hd] at h
 exact h
def PostC (P : Program) (fn : Func) (E : World) (F : List Res) (M : Mem) (R : FrameMode → Mem → List Res → Prop) (u : FrameMode) : Exit → Act → World → Prop := fun e a w =>
 (e = .normal ∨ e = .ret) ∧ a.defers = [] ∧ ∃ v, (results fn a.tmps).run P w = .ok v w ∧ ∃ M' A', Mem.le M M' ∧ Own E M' (A' ++ F) w ∧ R u M' A'
theorem Tr.doneC {fn : Func} {A' : List Res} {R : FrameMode → Mem → List Res → Prop} {rs : List ResultVar} {vs : List Value} {u : FrameMode} {X : Exit} (hX : X = .normal ∨ X = .ret) (hr : fn.results = rs.toArray) (h : RVs P fr L rs vs) (hm : Mem.le M0 M) (hL : DropL L (A' ++ F)) (hR : R u M A') :
  Tr E ⟨n, fr, [], M, L⟩ (PostC P fn E F M0 R u X) := fun a w hs => by
 refine ⟨hX, hs.fits.defers, _, run_results hr h hs.fits hs.own.kh, M, A', hm, ?_, hR⟩
 have := hs.own
 clear hs hR h
 generalize A' ++ F = L' at hL ⊢
 induction hL with
 | refl => exact this
 | skip _ ih => exact ih this.drop
theorem wpS_rec {id d1 d2 : Nat} {t1 t2 : TypeId} {p1 p2 : String} {e1 e2 : Array Edge} {ts : Array TypeId} {Q : Exit → Act → List Frame → World → Prop} {a : Act} {cs cs' : List Frame} {w : World} {v : Value} (h : recoverD cs = some (v, cs'))
  (k : Q .normal ((a.put (some d1) v).put (some d2) ((a.put (some d1) v).eval (.tmp d1))) cs' w) :
  (Code.region id #[⟨some d1, .call { callee := .builtin .recover, args := #[], argTypes := ts }, t1, p1, e1, none⟩, ⟨some d2, .assign (.tmp d1), t2, p2, e2, none⟩] false).wpS P Q a cs w := by
 refine wpS_region ?_
 show wpOpsS P _ Q [0, 1] a cs w
 simp [wpOpsS, Region.wanted, execOp, resolve, invoke, builtin, h, Oper.upon]
 exact k
theorem wpS_norec {id d1 d2 : Nat} {t1 t2 : TypeId} {p1 p2 : String} {e1 e2 : Array Edge} {ts : Array TypeId} {Q : Exit → Act → List Frame → World → Prop} {a : Act} {cs : List Frame} {w : World} (h : recoverD cs = none)
  (k : Q .normal ((a.put (some d1) .nilIface).put (some d2) ((a.put (some d1) .nilIface).eval (.tmp d1))) cs w) :
  (Code.region id #[⟨some d1, .call { callee := .builtin .recover, args := #[], argTypes := ts }, t1, p1, e1, none⟩, ⟨some d2, .assign (.tmp d1), t2, p2, e2, none⟩] false).wpS P Q a cs w := by
 refine wpS_region ?_
 show wpOpsS P _ Q [0, 1] a cs w
 simp [wpOpsS, Region.wanted, execOp, resolve, invoke, builtin, h, Oper.upon]
 exact k
theorem CD.intro {f : FuncId} {fn : Func} {c : Code} {vs : List Value} {A : List Res} {R : FrameMode → Mem → List Res → Prop} {id d1 d2 : Nat} {t1 t2 : TypeId} {p1 p2 : String} {e1 e2 : Array Edge} {ts : Array TypeId}
  (hf : P.funcs[f]? = some fn) (hb : fn.body = some (.seq (.region id #[⟨some d1, .call { callee := .builtin .recover, args := #[], argTypes := ts }, t1, p1, e1, none⟩, ⟨some d2, .assign (.tmp d1), t2, p2, e2, none⟩] false) c))
  (hname : (fn.name == "runtime.NumGoroutine") = false) (hn : fn.ntmps = n) (hl : Nat.ble vs.length n = true) (h1 : Nat.blt d1 n = true) (h2 : Nat.blt d2 n = true) {u u' : FrameMode} {v : Value}
  (hu : (∃ older, u = .panicking ({ v := v, recovered := false } :: older) ∧ u' = .panicking ({ v := v, recovered := true } :: older)) ∨ (u = .returning ∧ u' = .returning ∧ v = .nilIface))
  (h : ∀ E F, Tr E ⟨n, (d2, v) :: (d1, v) :: argFr vs 0, [], M, A ++ F⟩ (c.wpIn (rf none) 0 P (PostC P fn E F M R u'))) : CD P f vs u M A R := by
 refine ⟨⟨fn, hf, hname, by rw [hb]; rfl⟩, fun E F w hw => ?_⟩
 refine callsD_of_wpS hf hb fun c₀ cs hc => ?_
 have hfit0 : Fits n (argFr vs 0) [] { tmps := vs.toArray ++ Array.replicate (fn.ntmps - vs.toArray.size) undef, defers := [] } := by
  refine ⟨?_, fun k v hk => ?_, rfl⟩
  ·have := Nat.ble_eq.mp hl
   simp [hn]; omega
  ·obtain ⟨_, h2⟩ := look_argFr vs 0 k v hk
   have hlt := (List.getElem?_eq_some_iff.1 h2).1
   simp only [Nat.sub_zero] at h2 hlt
   rw [Array.getD_eq_getD_getElem?, Array.getElem?_append_left (by simpa using hlt)]
   simp [h2]
 generalize ({ tmps := vs.toArray ++ Array.replicate (fn.ntmps - vs.toArray.size) undef, defers := [] } : Act) = a0 at hfit0 ⊢
 have hfit1 := hfit0.put h1 v
 have hev : (a0.put (some d1) v).eval (.tmp d1) = v := hfit1.ev (by simp [ev, look_cons_eq])
 have hfit2 := hfit1.put h2 v
 have key : ∀ cs' : List Frame, cs' = { c₀ with mode := u' } :: cs → c.wpS P (bodyPostS P fn c₀ cs fun e u' w' => ∃ v M' A', e = .returned v ∧ Mem.le M M' ∧ Own E M' (A' ++ F) w' ∧ R u' M' A') ((a0.put (some d1) v).put (some d2) v) cs' w := by
  rintro cs' rfl
  refine wpS_of_wp ((wpIn_wide (n := 0)).1 (Code.wpIn_mono ?_ (h E F _ w ⟨hfit2, hw⟩)))
  rintro e a w ⟨he, hd, r, hr, M', A', hm, ho, hR⟩
  rcases he with rfl | rfl
  ·exact ⟨hd, u', rfl, r, hr, r, M', A', rfl, hm, ho, hR⟩
  ·exact ⟨hd, u', rfl, r, hr, r, M', A', rfl, hm, ho, hR⟩
 refine wpS_seq ?_
 rcases hu with ⟨older, rfl, rfl⟩ | ⟨rfl, rfl, rfl⟩
 ·refine wpS_rec (v := v) (cs' := { c₀ with mode := .panicking ({ v := v, recovered := true } :: older) } :: cs) (by simp [recoverD, hc]) ?_
  rw [hev]
  exact key _ rfl
 ·refine wpS_norec (by simp [recoverD, hc]) ?_
  rw [hev]
  refine key _ ?_
  cases c₀
  simp_all
end
end Bf

