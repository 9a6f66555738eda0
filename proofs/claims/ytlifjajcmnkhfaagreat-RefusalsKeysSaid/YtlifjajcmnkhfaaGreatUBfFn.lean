/-
 Function values: how they are made.
 Conditions: none; plain laws over any program.
-/
import Derived.Test.YtlifjajcmnkhfaaGreatUBfRange
namespace Bf
open Go
section
variable {r : Option Nat} {P : Program} {fr : Fr} {M : Mem} {L : List Res}
variable {d : Nat} {ty : TypeId} {pos : String} {aft : Array Edge} {g : Option (Nat × Bool)}
theorem Stab.makeFunc {f : FuncId} {xs ys : List Operand} {vs us : List Value} (hx : evL fr xs = some vs) (hy : evL fr ys = some us) :
  Stab P fr M L ⟨some d, .makeFunc (.func f) xs.toArray ys.toArray, ty, pos, aft, g⟩ (.func (.func f) vs.toArray us.toArray) := by
 intro n D a w hf _
 have h1 : xs.toArray.map a.eval = vs.toArray := by simp [evL_map hf hx]
 have h2 : ys.toArray.map a.eval = us.toArray := by simp [evL_map hf hy]
 simp [execOp, Instr.makeFunc, h1, h2, Sem.run_pure]
end
theorem Tr.perm {E : World} {n : Nat} {fr : Fr} {D : List Deferred} {M : Mem} {L L' : List Res} {X : Act → World → Prop} (hp : L'.Perm L) (k : Tr E ⟨n, fr, D, M, L'⟩ X) : Tr E ⟨n, fr, D, M, L⟩ X :=
 fun a w hs => k a w ⟨hs.fits, hs.own.perm hp⟩
theorem Tr.rangeFunc' {P : Program} {E : World} {Q : Exit → Act → World → Prop} {n : Nat} {fr : Fr} {D : List Deferred} {M : Mem} {L : List Res} {f : FuncId} {x : Operand} {ps : Array Tmp} {assign body : Code} {first cap : List Value} {A F : List Res} {Rf : Option Code → Mem → List Res → Prop} (hx : ev fr x = some (.func (.func f) first.toArray cap.toArray)) (hp : (A ++ F).Perm L)
  (hf : ∀ (l d : Nat) (lp : Loop), lp.state = .ready → lp.pending = none → lp.params = ps → lp.assign = assign → lp.body = body → Fits n fr [] ⟨lp.tmps, []⟩ → Bf.Fn P f (first ++ [yv l] ++ cap) M (loopR l lp :: defR d :: A)
   fun _ M' A' => ∃ lp A'', A' = loopR l lp :: defR d :: A'' ∧ lp.state ≠ .busy ∧ Rf lp.pending M' A'')
  (k : ∀ d M' A'', Mem.le M M' → (Rf none M' A'' → Tr E ⟨n, fr, coll d :: D, M', defR d :: (A'' ++ F)⟩ (Q .normal)) ∧ (∀ c, Rf (some c) M' A'' → Tr E ⟨n, fr, coll d :: D, M', defR d :: (A'' ++ F)⟩ (c.wpIn (rf none) 0 P Q))) :
  Tr E ⟨n, fr, D, M, L⟩ ((Code.rangeFunc x ps assign body).wpIn (rf none) 0 P Q) :=
 Tr.rangeFunc hx hp (fun l d _ _ hfit => hf l d _ rfl rfl rfl rfl rfl hfit) k
end Bf

