/-
 Functions that range over functions and may panic.
 Conditions: none; plain laws over any program.
-/
import Derived.Test.YtmikfjcdgkopkaaGreatWBfPan
import Derived.Test.YtmikfjcdgkopkaaGreatWBfRange
namespace Bf
open Go
theorem FnP.introM {P : Program} {f : FuncId} {fn : Func} {c : Code} {vs : List Value} {M : Mem} {A : List Res} {R : Value → Mem → List Res → Prop} {RP : List PanicEntry → Mem → List Res → Prop} {n : Nat}
  (hf : P.funcs[f]? = some fn) (hb : fn.body = some c) (hname : (fn.name == "runtime.NumGoroutine") = false) (hn : fn.ntmps = n) (hl : Nat.ble vs.length n = true)
  (h : ∀ E F, Tr E ⟨n, argFr vs 0, [], M, A ++ F⟩ (c.wpIn (rf none) 0 P (bodyPostM (rf none) 0 P fn (PostP E F M R RP)))) : FnP P f vs M A R RP := by
 refine ⟨⟨fn, hf, hname, by rw [hb]; rfl⟩, fun E F w hw => ?_⟩
 refine callsIn_wide.1 (callsIn_of_wp_marks (n := 0) hf hb trivial (h E F _ _ ⟨⟨?_, ?_, rfl⟩, hw⟩) rfl)
 ·have := Nat.ble_eq.mp hl
  simp [hn]; omega
 ·intro k v hk
  obtain ⟨_, h2⟩ := look_argFr vs 0 k v hk
  have hlt := (List.getElem?_eq_some_iff.1 h2).1
  simp only [Nat.sub_zero] at h2 hlt
  rw [Array.getD_eq_getD_getElem?, Array.getElem?_append_left (by simpa using hlt)]
  simp [h2]
section
variable {P : Program} {E : World} {fn : Func} {F : List Res} {M0 M : Mem} {n : Nat} {fr : Fr} {D : List Deferred} {L : List Res} {R : Value → Mem → List Res → Prop} {RP : List PanicEntry → Mem → List Res → Prop}
theorem Tr.doneMB {A' L' : List Res} {rs : List ResultVar} {vs : List Value} {X : Exit} (ds : List Nat) (B : List Res) (hD : D = ds.map coll) (hX : X = .ret ∨ X = .normal) (hr : fn.results = rs.toArray)
  (hp : L.Perm (ds.map defR ++ L')) (h : RVs P fr L' rs vs) (hm : Mem.le M0 M) (hL : L' = B ++ (A' ++ F)) (hR : R (resVal vs) M A') :
  Tr E ⟨n, fr, D, M, L⟩ (bodyPostM (rf none) 0 P fn (PostP E F M0 R RP) X) := fun a w hs => by
 subst hL
 have hfit := hs.fits
 have key : LeavesInM (rf none) 0 P fn a.tmps (PostP E F M0 R RP) a.defers .returning w := by
  rw [hfit.defers]
  show LeavesInM (rf none) 0 P fn a.tmps (PostP E F M0 R RP) D .returning w
  rw [hD]
  refine leavesM (L' := B ++ (A' ++ F)) (fun w' ho => ⟨_, run_results hr h hfit ho.kh, .inl ⟨_, M, A', rfl, hm, ?_, hR⟩⟩) ds w (hs.own.perm hp.symm)
  clear hs hfit hp h
  induction B with
  | nil => exact ho
  | cons x B ih => exact ih ho.drop
 rcases hX with rfl | rfl <;> exact key
theorem Tr.donePM {c : List PanicEntry} {A' : List Res} (hm : Mem.le M0 M) (hL : DropL L (A' ++ F)) (hR : RP c M A') : Tr E ⟨n, fr, [], M, L⟩ (bodyPostM (rf none) 0 P fn (PostP E F M0 R RP) (.panic c)) := fun a w hs => by
 have ho : Own E M (A' ++ F) w := by
  have := hs.own
  clear hs hR
  generalize A' ++ F = L' at hL ⊢
  induction hL with
  | refl => exact this
  | skip _ ih => exact ih this.drop
 have hd : a.defers = [] := hs.fits.defers
 show LeavesInM (rf none) 0 P fn a.tmps (PostP E F M0 R RP) a.defers (.panicking c) w
 rw [hd]
 exact .inr ⟨c, M, A', rfl, hm, ho, hR⟩
end
end Bf

