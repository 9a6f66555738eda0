/-
 Operations whose guard is an operation that was itself left out.
 Conditions: none; plain laws over any program.
-/
import Derived.Test.YtlifjajcmnkhfaaGreatUBfTac
import Derived.Test.YtlifjajcmnkhfaaGreatUBfDraw
namespace Bf
open Go
theorem yielded_undef {n : Nat} {fr : Fr} {D : List Deferred} {a : Act} (h : Fits n fr D a) {ops : Array Oper} {j t : Nat}
  (hj : (ops[j]?).bind (·.dst) = some t) (hl : look fr t = some undef) : yielded ops a.tmps j = none := by
 have := h.get t _ hl
 unfold yielded
 rw [hj]
 simp only [Array.getD_eq_getD_getElem?] at this
 cases ht : a.tmps[t]? with
 | none => simp [ht]
 | some v => rw [ht] at this; simp at this; subst this; simp [ht, undef]
section
variable {r : Option Nat} {P : Program} {E : World} {Q : Exit → Act → World → Prop} {n : Nat} {fr : Fr} {D : List Deferred} {M : Mem} {L : List Res}
theorem Tr.guard_u {ops : Array Oper} {o : Oper} {rest : List Oper} {j t d : Nat} {b : Bool} (hg : o.guard = some (j, b)) (hj : (ops[j]?).bind (·.dst) = some t)
  (hl : look fr t = some undef) (hd : o.dst = some d) (hn : Nat.blt d n = true) (h : Tr E ⟨n, (d, undef) :: fr, D, M, L⟩ (wpListIn (rf r) 0 P ops Q rest)) : Tr E ⟨n, fr, D, M, L⟩ (wpListIn (rf r) 0 P ops Q (o :: rest)) := fun a w hs => by
 have hw : Region.wanted o (yielded ops a.tmps) = false := by
  have hy := yielded_undef hs.fits hj hl
  simp only [Region.wanted, hg, hy]
  rfl
 refine wpListIn_step fun K hK => ?_
 rw [if_neg (by simp [hw])]
 refine ⟨fun _ _ => trivial, hK _ _ (h _ _ ⟨?_, hs.own⟩)⟩
 rw [hd]
 exact hs.fits.put hn _
end
section
variable {r : Option Nat} {P : Program} {E : World} {ops : Array Oper} {Q : Exit → Act → World → Prop} {B L : List Res} {fuel n : Nat} {l : List Nat} {fr : Fr} {D : List Deferred} {M : Mem}
theorem TrA.takew (i : Nat) {d j t : Nat} {b : Bool} {oi : Oper} (hsel : Region.noSelect ops = true) (hi : ops[i]? = some oi) (hc : chk ops l i = true) (hQ : ∀ c a w, Q (.panic c) (a.put oi.dst undef) w → Q (.panic c) a w)
  (hB : ∀ r ∈ B, r ∈ L) (hg : oi.guard = some (j, b)) (hj : (ops[j]?).bind (·.dst) = some t) (hl : look fr t = some undef) (hd : oi.dst = some d) (hn : Nat.blt d n = true)
  (h : TrA r P E ops Q B fuel (i :: l) ⟨n, (d, undef) :: fr, D, M, L⟩) : TrA r P E ops Q B (fuel + 1) l ⟨n, fr, D, M, L⟩ :=
 TrA.takeY hsel hi hc hQ hB (fun a _ hf _ => .inr ⟨by simp only [Region.wanted, hg, yielded_undef hf hj hl]; rfl, rfl⟩) hd hn h
end
end Bf

