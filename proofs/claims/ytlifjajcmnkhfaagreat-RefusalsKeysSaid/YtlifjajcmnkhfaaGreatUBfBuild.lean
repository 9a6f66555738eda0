/-
 A slice literal of one element that is an array or a struct whose cells are not written out.
 Conditions: none; plain laws over any program.
-/
import Derived.Test.YtlifjajcmnkhfaaGreatUBfMem
namespace Bf
open Go
theorem setL_at : ∀ (pre : List Value) {x v : Value} {l : List Value}, SetL (pre ++ x :: l) pre.length v (pre ++ v :: l)
 | [], _, _, _ => SetL.z
 | _ :: pre, _, _, _ => SetL.s (setL_at pre)
theorem PutL.after : ∀ (vs pre l : List Value), l.length = vs.length → PutL (pre ++ l) pre.length vs (pre ++ vs)
 | [], pre, l, h => by
  have : l = [] := List.eq_nil_of_length_eq_zero (by simpa using h)
  subst this
  exact PutL.nil
 | v :: vs, pre, [], h => by simp at h
 | v :: vs, pre, x :: l, h => by
  have h1 := setL_at pre (x := x) (v := v) (l := l)
  have h2 := PutL.after vs (pre ++ [v]) l (by simpa using h)
  rw [List.append_assoc, List.append_assoc, List.length_append] at h2
  exact PutL.cons h1 h2
theorem PutL.whole {l vs : List Value} (h : l.length = vs.length) : PutL l 0 vs vs := PutL.after vs [] l h
theorem zerosL_one (z : List Value) : zerosL z 1 = z := by simp [zerosL]
section
variable {r : Option Nat} {P : Program} {E : World} {Q : Exit → Act → World → Prop} {n : Nat} {fr : Fr} {D : List Deferred} {M : Mem} {L : List Res} {K : S → Prop}
variable {d : Nat} {ty : TypeId} {pos : String} {aft : Array Edge} {g : Option (Nat × Bool)}
theorem Exec.buildSlice1 {t e : TypeId} {i ei : TyI} {sz : Nat} {x : Operand} {z vs : List Value} (hx : ev fr x = some (.agg vs.toArray)) (hT : HasTy P t i) (hd : i.desc = .slice e) (hE : HasTy P e ei) (hsz : szOf ei = some sz) (hz : ei.zero.cells.toList = z) (hzl : z.length = sz) (hp : Nat.blt 0 sz = true)
  (hN : Nat.ble (1 * sz) 16777216 = true) (hl : vs.length = sz) (hn : Nat.blt d n = true)
  (k : ∀ b, K ⟨n, (d, .slice (some ⟨b, 0, none⟩) 1 1) :: fr, D, M, Bf.box b e vs :: L⟩) :
  Exec r P E Q ⟨n, fr, D, M, L⟩ ⟨some d, .buildSlice t 1 #[(0, x)], ty, pos, aft, g⟩ K :=
 Exec.buildSlice (ps := [(0, x)]) hT hd hE hsz hz hzl hp hN (BuildP.many (by simp) hx hl hp (PutL.whole (by rw [zerosL_one]; omega)) BuildP.nil) hn k
end
end Bf

