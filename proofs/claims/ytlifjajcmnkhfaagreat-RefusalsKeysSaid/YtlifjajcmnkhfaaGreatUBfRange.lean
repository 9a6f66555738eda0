/-
 Ranges over functions: the statement, its rounds, and what a function that ranges leaves behind.
 Conditions: none; plain laws over any program.
-/
import Derived.Test.YtlifjajcmnkhfaaGreatUBfRep
import Derived.RangeFuncLeaves
namespace Bf
open Go

def loopR (l : Nat) (lp : Loop) : Res := pt l (.loop lp)
def defR (d : Nat) : Res := pt d (.deferred (some []))
def coll (d : Nat) : Deferred := { target := .collected d, args := #[] }
def yv (l : Nat) : Value := .func (.yield l) #[] #[]

def Yl (P : Program) (l : Nat) (args : List Value) (M : Mem) (A : List Res) (R : Value → Mem → List Res → Prop) : Prop :=
 ∀ r E F w, Own E M (A ++ F) w → ∃ f tmps assign body, (Instr.yield l args.toArray).run P w = .ok (.round l f tmps assign body) w ∧
  RoundIn (rf r) 0 P l f tmps assign body w fun e w' => ∃ v M' A', e = .returned v ∧ Mem.le M M' ∧ Own E M' (A' ++ F) w' ∧ R v M' A'

section objs
variable {P : Program} {w : World} {l : Nat} {lp : Loop}
theorem run_getLoop (h : w.heap[l]? = some (.loop lp)) : (Instr.getLoop l).run P w = .ok lp w := by
 simp [Instr.getLoop, getObj, Sem.run, h]
theorem run_setObj {o o' : Obj} (h : w.heap[l]? = some o) (ho : (match o with | .cells .. => false | _ => true) = true) : (setObj l o').run P w = .ok () { w with heap := w.heap.setIfInBounds l o' } := by
 cases o <;> first | (cases ho; done) | simp [setObj, Sem.run, h]
theorem Own.setObj {E : World} {M : Mem} {L L' : List Res} {o o' : Obj} (h : Own E M L w) (u : Upd L (pt l o) (pt l o') L') : Own E M L' { w with heap := w.heap.setIfInBounds l o' } := by
 have hb : w.heap[l]? = some o := h.res _ u.mem
 have hlt := hp_lt (w := w) hb
 refine h.upd u ⟨rfl, rfl, rfl⟩ (by simp) ?_ ?_ ?_ (by simp [pt])
 ·intro b hbn _
  simp [pt] at hbn
  simp [hp, Array.getElem?_setIfInBounds_ne (Ne.symm hbn)]
 ·simp [pt, hp, hlt]
 ·intro b hb
  simp [pt] at hb
  subst hb
  exact ⟨by simpa using hlt, .inl (by simp [pt])⟩
end objs

section
variable {r : Option Nat} {P : Program} {E : World} {Q : Exit → Act → World → Prop} {n : Nat} {fr : Fr} {D : List Deferred} {M : Mem} {L : List Res} {K : S → Prop}
variable {ty : TypeId} {pos : String} {aft : Array Edge} {g : Option (Nat × Bool)}

theorem Exec.yield {d l : Nat} {x : Operand} {xs : List Operand} {ts : Array TypeId} {vs : List Value} {A F : List Res} {R : Value → Mem → List Res → Prop} (hx : ev fr x = some (.func (.yield l) #[] #[])) (hv : evL fr xs = some vs)
  (hy : Yl P l vs M A R) (hp : (A ++ F).Perm L) (hn : Nat.blt d n = true) (k : ∀ v M' A', Mem.le M M' → R v M' A' → K ⟨n, (d, v) :: fr, D, M', A' ++ F⟩) :
  Exec r P E Q ⟨n, fr, D, M, L⟩ ⟨some d, .call { callee := .value x, args := xs.toArray, argTypes := ts }, ty, pos, aft, g⟩ K := fun a w hs => by
 obtain ⟨f, tmps, assign, body, h1, h2⟩ := hy r E F w (hs.own.perm hp)
 have hargs : xs.toArray.map a.eval = vs.toArray := by simp [evL_map hs.fits hv]
 have hrun : (execOp a.eval ⟨some d, .call { callee := .value x, args := xs.toArray, argTypes := ts }, ty, pos, aft, g⟩).run P w = .ok (.round l f tmps assign body) w := by
  simp only [execOp, resolve, hs.fits.ev hx, Deferred.ofValue, hargs, Sem.run_bind, Sem.run_pure, Result.andThen_ok, invoke, Array.empty_append, h1]
 refine wpIn_of_run hrun (fun _ h => by cases h) ?_
 refine ⟨fun h => by simp [rf] at h, ?_⟩
 refine RoundIn.mono h2 ?_
 rintro e w' ⟨v, M', A', rfl, h3, h4, h5⟩
 exact ⟨_, ⟨hs.fits.put hn v, h4⟩, k v M' A' h3 h5⟩

def putAll : List Nat → List Value → Fr → Fr
 | p :: ps, v :: vs, fr => putAll ps vs ((p, v) :: fr)
 | _, _, fr => fr
theorem fits_putAll {n : Nat} {D : List Deferred} : ∀ (ps : List Nat) (vs : List Value) {fr : Fr} {tmps : Array Value}, (∀ p ∈ ps, p < n) → Fits n fr D ⟨tmps, D⟩ →
  Fits n (putAll ps vs fr) D ⟨(ps.zip vs).foldl (fun t (x : Nat × Value) => t.setIfInBounds x.1 x.2) tmps, D⟩
 | [], _, _, _, _, h => h
 | _ :: _, [], _, _, _, h => h
 | p :: ps, v :: vs, fr, tmps, hp, h => fits_putAll ps vs (fun q hq => hp q (by simp [hq])) (h.put (d := p) (Nat.blt_eq.mpr (hp p (by simp))) v)

def Begin (P : Program) (l : Nat) (body : Code) (Q : Exit → Act → World → Prop) (a : Act) (w : World) : Prop := ∃ w₂, (Instr.beginRound l).run P w = .ok () w₂ ∧ body.wpIn (rf (some l)) 0 P Q a w₂
theorem Tr.begin {l : Nat} {lp : Loop} {body : Code} {L' : List Res} (hL : Upd L (loopR l lp) (loopR l { lp with state := .busy }) L') (hr : lp.state = .ready) (k : Tr E ⟨n, fr, D, M, L'⟩ (body.wpIn (rf (some l)) 0 P Q)) :
  Tr E ⟨n, fr, D, M, L⟩ (Begin P l body Q) := fun a w hs => by
 have hl : w.heap[l]? = some (.loop lp) := hs.own.res _ hL.mem
 refine ⟨_, ?_, k a _ ⟨hs.fits, hs.own.setObj hL⟩⟩
 simp only [Instr.beginRound, Sem.run_bind, run_getLoop hl, Result.andThen_ok, run_setObj hl rfl, hr, Sem.run_pure]
def RoundRes (E : World) (F : List Res) (M0 : Mem) (R : Value → Mem → List Res → Prop) (e : Ending) (w' : World) : Prop := ∃ v M' A', e = .returned v ∧ Mem.le M0 M' ∧ Own E M' (A' ++ F) w' ∧ R v M' A'
theorem run_endRound {w : World} {l : Nat} {lp : Loop} (hl : w.heap[l]? = some (.loop lp)) (j : Option Code) : (Instr.endRound l j).run P w = .ok (.bool j.isNone) { w with heap := w.heap.setIfInBounds l (.loop { lp with state := if j.isNone then .ready else .done, pending := j }) } := by
 simp only [Instr.endRound, Sem.run_bind, run_getLoop hl, Result.andThen_ok, run_setObj hl rfl, Sem.run_pure]
theorem Tr.round_normal {l : Nat} {lp : Loop} {F A' L' : List Res} {M0 : Mem} {R : Value → Mem → List Res → Prop} (hL : Upd L (loopR l lp) (loopR l { lp with state := .ready, pending := none }) L') (hA : DropL L' (A' ++ F)) (hm : Mem.le M0 M) (hR : R (.bool true) M A') :
  Tr E ⟨n, fr, D, M, L⟩ (roundPost P l (RoundRes E F M0 R) .normal) := fun a w hs => by
 have hl : w.heap[l]? = some (.loop lp) := hs.own.res _ hL.mem
 refine ⟨_, _, run_endRound hl none, _, M, A', rfl, hm, ?_, hR⟩
 exact (holds_sub (fr' := []) .nil hA a _ ⟨hs.fits, hs.own.setObj hL⟩).own
theorem Yl.intro {l : Nat} {lp : Loop} {ps : List Nat} {vs : List Value} {A : List Res} {R : Value → Mem → List Res → Prop} {nn : Nat} {fr : Fr} (hps : lp.params = ps.toArray) (hlen : vs.length = ps.length) (hlt : ∀ p ∈ ps, p < nn)
  (hfit : Fits nn fr [] ⟨lp.tmps, []⟩) (hL : Has A (loopR l lp))
  (h : ∀ E F, Tr E ⟨nn, putAll ps vs fr, [], M, A ++ F⟩ (lp.assign.wpIn (rf (some l)) 0 P (Exit.then (Begin P l lp.body (roundPost P l (RoundRes E F M R))) (fun _ _ _ => False)))) : Yl P l vs M A R := fun r E F w hw => by
 have hl : w.heap[l]? = some (.loop lp) := hw.res _ (List.mem_append_left _ hL.mem)
 refine ⟨lp.fn, (ps.zip vs).foldl (fun t (x : Nat × Value) => t.setIfInBounds x.1 x.2) lp.tmps, lp.assign, lp.body, ?_, ?_⟩
 ·have hsz : ¬ (vs.toArray.size ≠ lp.params.size) := by simp [hps, hlen]
  simp only [Instr.yield, Sem.run_bind, run_getLoop hl, Result.andThen_ok]
  rw [if_neg hsz]
  simp only [Sem.run_pure]
  congr 2
  rw [hps]
  simp [List.zip_toArray]
 ·refine roundIn_of_wpIn (F := rf r) trivial ?_
  exact h E F _ w ⟨fits_putAll ps vs hlt hfit, hw⟩

theorem Tr.rangeFunc {f : FuncId} {x : Operand} {ps : Array Tmp} {assign body : Code} {first cap : List Value} {A F : List Res} {Rf : Option Code → Mem → List Res → Prop} (hx : ev fr x = some (.func (.func f) first.toArray cap.toArray)) (hp : (A ++ F).Perm L)
  (hf : ∀ (l d : Nat) (fn : FuncId) (tmps : Array Value), Fits n fr [] ⟨tmps, []⟩ → Fn P f (first ++ [yv l] ++ cap) M (loopR l { state := .ready, pending := none, fn := fn, tmps := tmps, params := ps, assign := assign, body := body, defers := d } :: defR d :: A)
   fun _ M' A' => ∃ lp A'', A' = loopR l lp :: defR d :: A'' ∧ lp.state ≠ .busy ∧ Rf lp.pending M' A'')
  (k : ∀ d M' A'', Mem.le M M' → (Rf none M' A'' → Tr E ⟨n, fr, coll d :: D, M', defR d :: (A'' ++ F)⟩ (Q .normal)) ∧ (∀ c, Rf (some c) M' A'' → Tr E ⟨n, fr, coll d :: D, M', defR d :: (A'' ++ F)⟩ (c.wpIn (rf none) 0 P Q))) :
  Tr E ⟨n, fr, D, M, L⟩ ((Code.rangeFunc x ps assign body).wpIn (rf none) 0 P Q) := fun a w hs => by
 refine wpIn_rangeFunc fun fn _ => ?_
 let lp : Loop := { state := .ready, pending := none, fn := fn, tmps := a.tmps, params := ps, assign := assign, body := body, defers := w.heap.size }
 have hfit : Fits n fr [] ⟨a.tmps, []⟩ := ⟨hs.fits.size, hs.fits.get, rfl⟩
 have hfn := hf (w.heap.size + 1) w.heap.size fn a.tmps hfit
 have ho := (hs.own.perm hp).alloc (.deferred (some []))
 have ho2 := ho.alloc (.loop lp)
 rw [World.size_alloc] at ho2
 refine ⟨w.heap.size + 1, [coll w.heap.size], (w.alloc (.deferred (some []))).alloc (.loop lp), { target := .fn (.func f) cap.toArray, args := first.toArray ++ #[yv (w.heap.size + 1)] }, (w.alloc (.deferred (some []))).alloc (.loop lp), f, (first ++ [yv (w.heap.size + 1)] ++ cap).toArray, (w.alloc (.deferred (some []))).alloc (.loop lp), ?_, ?_, fun _ _ => trivial, ?_, fun h => by simp [rf] at h, ?_⟩
 ·simp only [Instr.enterLoop, rf, Sem.run_bind, run_newObj, World.alloc_eq, Result.andThen_ok, Sem.run_pure, World.size_alloc]
  rfl
 ·simp only [resolve, hs.fits.ev hx, Deferred.ofValue, Sem.run_pure]
  simp [Act.eval, yv]
 ·simp only [invoke]
  rw [run_call hfn.1]
  simp
 ·refine CallsIn.mono (callsIn_rf (hfn.2 E F _ ho2)) ?_
  rintro e w' ⟨v, M', A', rfl, h2, h3, lp', A'', rfl, h5, h6⟩
  have hl : w'.heap[w.heap.size + 1]? = some (.loop lp') := h3.res (loopR _ lp') (by simp)
  have hb : (lp'.state == .busy) = false := by simpa using h5
  have hrun : (Instr.endLoop (w.heap.size + 1)).run P w' = .ok lp'.pending { w' with heap := w'.heap.setIfInBounds (w.heap.size + 1) (.loop { lp' with state := .exhausted }) } := by
   simp only [Instr.endLoop, Sem.run_bind, run_getLoop hl, Result.andThen_ok, hb, Bool.false_eq_true, if_false, run_setObj hl rfl, Sem.run_pure]
  have hown : Own E M' (defR w.heap.size :: (A'' ++ F)) { w' with heap := w'.heap.setIfInBounds (w.heap.size + 1) (.loop { lp' with state := .exhausted }) } :=
   (h3.setObj (o := .loop lp') (o' := .loop { lp' with state := .exhausted }) .here).drop
  refine ⟨lp'.pending, _, hrun, ?_⟩
  clear hrun
  generalize ({ w' with heap := w'.heap.setIfInBounds (w.heap.size + 1) (.loop { lp' with state := .exhausted }) } : World) = W at hown ⊢
  have hfit' : Fits n fr (coll w.heap.size :: D) { a with defers := [coll w.heap.size] ++ a.defers } := ⟨hs.fits.size, hs.fits.get, by simp [hs.fits.defers]⟩
  obtain ⟨k1, k2⟩ := k w.heap.size M' A'' h2
  cases hpd : lp'.pending with
  | none => rw [hpd] at h6; exact k1 h6 _ _ ⟨hfit', hown⟩
  | some c => rw [hpd] at h6; exact k2 c h6 _ _ ⟨hfit', hown⟩

theorem Fn.introM {f : FuncId} {fn : Func} {c : Code} {vs : List Value} {A : List Res} {R : Value → Mem → List Res → Prop}
  (hf : P.funcs[f]? = some fn) (hb : fn.body = some c) (hname : (fn.name == "runtime.NumGoroutine") = false) (hn : fn.ntmps = n) (hl : Nat.ble vs.length n = true)
  (h : ∀ E F, Tr E ⟨n, argFr vs 0, [], M, A ++ F⟩ (c.wpIn (rf none) 0 P (bodyPostM (rf none) 0 P fn (Post E F M R)))) : Fn P f vs M A R := by
 refine ⟨⟨fn, hf, hname, by rw [hb]; rfl⟩, fun E F w hw => ?_⟩
 refine callsIn_wide.1 (callsIn_of_wp_marks (n := 0) hf hb trivial (h E F _ _ ⟨⟨?_, ?_, rfl⟩, hw⟩) rfl)
 ·have := Nat.ble_eq.mp hl
  simp [hn]; omega
 ·intro k v hk
  obtain ⟨_, h2⟩ := look_argFr vs 0 k v hk
  have hlt := (List.getElem?_eq_some_iff.1 h2).1
  simp only [Nat.sub_zero] at h2 hlt
  rw [Array.getD_eq_getD_getElem?, Array.getElem?_append_left (by simpa using hlt)]
  simp [h2]

theorem run_take {w : World} {b : Nat} (h : w.heap[b]? = some (.deferred (some []))) : (Instr.takeDeferred b).run P w = .ok [] { w with heap := w.heap.setIfInBounds b (.deferred none) } := by
 have : (getObj b).run P w = .ok (.deferred (some [])) w := by simp [getObj, Sem.run, h]
 simp only [Instr.takeDeferred, Sem.run_bind, this, Result.andThen_ok, run_setObj h rfl, Sem.run_pure]
theorem leavesM {fn : Func} {tmps : Array Value} {R : Ending → World → Prop} {L' : List Res} (k : ∀ w, Own E M L' w → ∃ v, (results fn tmps).run P w = .ok v w ∧ R (.returned v) w) :
  ∀ (ds : List Nat) (w : World), Own E M (ds.map defR ++ L') w → LeavesInM (rf none) 0 P fn tmps R (ds.map coll) .returning w
 | [], w, h => k w h
 | d :: ds, w, h => by
  have hb : w.heap[d]? = some (.deferred (some [])) := h.res (defR d) (by simp)
  refine ⟨by simp, .inl ⟨d, _, rfl, run_take hb, leavesM k ds _ ?_⟩⟩
  exact (h.setObj (o := .deferred (some [])) (o' := .deferred none) (L' := pt d (.deferred none) :: (ds.map defR ++ L')) .here).drop
theorem Tr.doneM {fn : Func} {F L' : List Res} {M0 : Mem} {R : Value → Mem → List Res → Prop} {rs : List ResultVar} {vs : List Value} {X : Exit} (ds : List Nat) (hD : D = ds.map coll) (hX : X = .ret ∨ X = .normal) (hr : fn.results = rs.toArray)
  (hp : L.Perm (ds.map defR ++ L')) (h : RVs P fr L' rs vs) (hm : Mem.le M0 M) (hL : ∃ B, L' = B ++ F) (hR : R (resVal vs) M []) :
  Tr E ⟨n, fr, D, M, L⟩ (bodyPostM (rf none) 0 P fn (Post E F M0 R) X) := fun a w hs => by
 obtain ⟨B, rfl⟩ := hL
 have hfit := hs.fits
 have key : LeavesInM (rf none) 0 P fn a.tmps (Post E F M0 R) a.defers .returning w := by
  rw [hfit.defers]
  show LeavesInM (rf none) 0 P fn a.tmps (Post E F M0 R) D .returning w
  rw [hD]
  refine leavesM (L' := B ++ F) (fun w' ho => ⟨_, run_results hr h hfit ho.kh, _, M, [], rfl, hm, ?_, hR⟩) ds w (hs.own.perm hp.symm)
  clear hs hfit hp h
  induction B with
  | nil => exact ho
  | cons x B ih => exact ih ho.drop
 rcases hX with rfl | rfl <;> exact key
end
end Bf

