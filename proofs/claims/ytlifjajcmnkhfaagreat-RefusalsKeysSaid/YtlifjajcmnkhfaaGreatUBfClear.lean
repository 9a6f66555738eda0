/-
 clear of a slice that is an owned block; what is not needed of the memory may be forgotten.
 Conditions: none; plain laws over any program.
-/
import Derived.Test.YtlifjajcmnkhfaaGreatUBfMem
import Derived.Test.YtlifjajcmnkhfaaGreatUBfCall
import Derived.Test.YtlifjajcmnkhfaaGreatUBfLend
namespace Bf
open Go
section
variable {r : Option Nat} {P : Program} {E : World} {Q : Exit → Act → World → Prop} {n : Nat} {fr : Fr} {D : List Deferred} {M : Mem} {L L' : List Res} {K : S → Prop}
variable {d : Nat} {ty : TypeId} {pos : String} {aft : Array Edge} {g : Option (Nat × Bool)}
theorem Exec.of_runN {o : Oper} {M' : Mem} {L' : List Res} (hd : o.dst = none)
  (h : ∀ a w, S.holds E ⟨n, fr, D, M, L⟩ a w → ∃ v w', (execOp a.eval o).run P w = .ok (.value v) w' ∧ Own E M' L' w')
  (k : K ⟨n, fr, D, M', L'⟩) : Exec r P E Q ⟨n, fr, D, M, L⟩ o K := fun a w hs => by
 obtain ⟨v, w', hr, ho⟩ := h a w hs
 refine wpIn_of_run hr (fun _ h => by cases h) ?_
 refine ⟨⟨n, fr, D, M', L'⟩, ⟨?_, ho⟩, k⟩
 rw [hd]
 exact hs.fits
theorem zeroCells_one (z : Value) (m : Nat) : (Builtin.zeroCells #[z] m).toList = List.replicate m z := by
 simp [Builtin.zeroCells]
 apply List.ext_getElem
 ·simp
 ·intro i h1 h2
  simp [Nat.mod_one]
theorem run_clear {P : Program} (w : World) (t ty e : TypeId) (i : TypeInfo) (z : Value) (ht : P.underlying t = some (.slice e)) (hi : P.info? e = some i) (hz : i.zero = some z) (hzc : z.cells = #[z]) (h1 : z.oneCell' = true) (b t0 m c : Nat) (cs : List Value) (hl : cs.length = m)
  (hb : w.heap[b]? = some (.cells cs.toArray t0 (0, 0))) : (Builtin.clear_ #[t] ty #[.slice (some ⟨b, 0, none⟩) m c]).run P w = .ok (.tuple #[]) (w.setRow b (List.replicate m z).toArray) := by
 cases m with
 | zero =>
  have : cs = [] := List.eq_nil_of_length_eq_zero hl
  subst this
  have hself := setRow_self w b _ t0 (0, 0) hb
  have e0 : (List.replicate 0 z).toArray = ([] : List Value).toArray := rfl
  rw [e0, hself]
  simp [Builtin.clear_, run_underlying ht]
 | succ m =>
  have hst := run_storeCells_at P b 0 t0 (List.replicate (m + 1) z) 0 cs.toArray w hb (by simp; omega) (by intro v hv; rw [List.eq_of_mem_replicate hv]; exact h1)
  simp only [Nat.add_zero] at hst
  have e1 : cs.drop (m + 1) = [] := List.drop_eq_nil_of_le (by omega)
  simp [Builtin.clear_, run_underlying ht, zeroValue, typeInfo, hi, hz, hzc, zeroCells_one, hst, e1]
theorem Exec.clear {t e : TypeId} {i ei : TyI} {x : Operand} {b t0 m c : Nat} {z : Value} {cs : List Value} (hx : ev fr x = some (.slice (some ⟨b, 0, none⟩) m c)) (hT : HasTy P t i) (hd : i.desc = .slice e) (hE : HasTy P e ei) (hz : zOf ei = some z) (hzc : z.cells = #[z]) (h1 : z.oneCell' = true)
  (hL : Upd L (Bf.box b t0 cs) (Bf.box b t0 (List.replicate m z)) L') (hl : cs.length = m) (k : K ⟨n, fr, D, M, L'⟩) :
  Exec r P E Q ⟨n, fr, D, M, L⟩ ⟨none, .call { callee := .builtin .clear, args := #[x], argTypes := #[t] }, ty, pos, aft, g⟩ K :=
 Exec.of_runN rfl (fun a w hh => by
  obtain ⟨_, j, hj, hjs, hjb, hjz⟩ := hE
  have hu := hT.1
  rw [hd] at hu
  have hb := hh.own.box_at hL.mem
  have hrun := run_clear w t ty e j z hu hj (by rw [hjz, zOf_eq hz]) hzc h1 b t0 m c cs hl hb
  refine ⟨.tuple #[], _, ?_, hh.own.setRow hL⟩
  simp only [execOp, resolve, invoke, builtin, Sem.run_bind, Sem.run_pure, Result.andThen_ok, List.map_toArray, List.map_cons, List.map_nil, hh.fits.ev hx, hrun]) k
end
theorem Own.less {E : World} {M M' : Mem} {L : List Res} {w : World} (h : Own E M' L w) (hm : Mem.le M M') : Own E M L w :=
 ⟨h.os, h.tape, h.output, fun b o hb => h.mem b o (hm b o hb), h.res, h.lt, fun x hx b hb => by
  have h1 := h.out x hx b hb
  cases hc : M b with
  | none => rfl
  | some o => (rw [hm b o hc] at h1; cases h1), h.nd⟩
theorem Fn.forget {P : Program} {f : FuncId} {args : List Value} {M : Mem} {A : List Res} {R : Value → List Res → Prop} (h : Fn P f args M A fun v _ A' => R v A') : Fn P f args M A fun v M' A' => R v A' ∧ M = M' :=
 ⟨h.1, fun E F w hw => (h.2 E F w hw).mono fun _ _ ⟨v, _, A', h1, h2, h3, h4⟩ => ⟨v, M, A', h1, Mem.le.refl _, h3.less h2, h4, rfl⟩⟩
end Bf

