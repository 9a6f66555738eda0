/-
 Stores into fields of elements of a slice that the walk owns; lists of elements cell by cell.
 Conditions: none; plain laws over any program.
-/
import Derived.Test.YtcadnjmcmegpjaaTBfLend
import Derived.Test.YtcadnjmcmegpjaaTBfRepB
namespace Bf
open Go
section
variable {r : Option Nat} {P : Program} {E : World} {Q : Exit → Act → World → Prop} {n : Nat} {fr : Fr} {D : List Deferred} {M : Mem} {L L' : List Res} {K : S → Prop}
variable {d : Nat} {ty : TypeId} {pos : String} {aft : Array Edge} {g : Option (Nat × Bool)}
theorem add_add0 (b p o : Nat) : (((some (⟨b, 0, none⟩ : Addr)).getD default).add p).add o = ⟨b, p + o, none⟩ := by
 show (Addr.add ⟨b, 0, none⟩ p).add o = _
 simp [Addr.add]
 by_cases hp : p = 0 <;> by_cases ho : o = 0 <;> simp [hp, ho]
theorem Exec.storeN {t e sz p o : Nat} {i : TyI} {x y : Operand} {A : Option Addr} {m c : Nat} {xs : List Value} {v : Value} (hx : ev fr x = some (.pointer (some (((A.getD default).add p).add o)))) (hy : ev fr y = some v) (hT : HasTy P t i) (hsz : i.size = 1) (h1 : v.oneCell' = true)
  (hL : Upd L (ownS e sz A m c xs) (ownS e sz A m c (xs.set (p + o) v)) L') (hj : p + o < m * sz) (k : K ⟨n, fr, D, M, L'⟩) : Exec r P E Q ⟨n, fr, D, M, L⟩ ⟨none, .store t x y, ty, pos, aft, g⟩ K := fun a w hs => by
 have hok := hs.own.res _ hL.mem
 obtain ⟨l1, l2, l3⟩ := hok
 rcases l3 with ⟨_, rfl, _⟩ | ⟨b, cur, rfl, k2, k3, k4, k5, k6⟩
 ·rw [Nat.zero_mul] at hj; omega
 obtain ⟨B, C, rfl, rfl⟩ := hL.split
 have hcur : (xs.set (p + o) v) = (cur.toList.set (p + o) v).take (m * sz) := by
  rw [← k6, List.take_set]
 rw [add_add0] at hx
 have hlen : p + o < cur.toList.length := by
  have := congrArg List.length k6
  rw [List.length_take, l1] at this
  omega
 have hs' : S.holds E ⟨n, fr, D, M, B ++ Bf.box b e cur.toList :: C⟩ a w := ⟨hs.fits, hs.own.conv (fun h y hy => by
  rcases List.mem_append.1 hy with hy | hy
  ·exact h y (by simp [hy])
  ·rcases List.mem_cons.1 hy with rfl | hy
   ·show hp w b = _
    simpa using k2
   ·exact h y (by simp [hy])) (by simp [ownS, Bf.box, pt])⟩
 have hu : ∀ (B : List Res), Upd (B ++ Bf.box b e cur.toList :: C) (Bf.box b e cur.toList) (Bf.box b e (cur.toList.set (p + o) v)) (B ++ Bf.box b e (cur.toList.set (p + o) v) :: C) := fun B => by
  induction B with
  | nil => exact .here
  | cons _ _ ih => exact .there ih
 have hex := Exec.storeS (r := r) (P := P) (E := E) (Q := Q) (D := D) (M := M) (n := n) (ty := ty) (pos := pos) (aft := aft) (g := g) (K := fun s' => s' = ⟨n, fr, D, M, B ++ Bf.box b e (cur.toList.set (p + o) v) :: C⟩) hx hy hT hsz h1 (hu B) hlen rfl
 refine Oper.wpIn_mono ?_ (hex a w hs')
 rintro a' w' ⟨s', h2, rfl⟩
 refine ⟨⟨n, fr, D, M, B ++ ownS e sz (some ⟨b, 0, none⟩) m c (xs.set (p + o) v) :: C⟩, ⟨h2.fits, h2.own.conv (fun h y hy => ?_) (by simp [ownS, Bf.box, pt])⟩, k⟩
 rcases List.mem_append.1 hy with hy | hy
 ·exact h y (by simp [hy])
 ·rcases List.mem_cons.1 hy with rfl | hy
  ·have hb : hp w' b = some (.cells (cur.toList.set (p + o) v).toArray e (0, 0)) := h (Bf.box b e (cur.toList.set (p + o) v)) (by simp)
   refine ⟨by rw [List.length_set]; exact l1, fun u hu => ?_, .inr ⟨b, _, rfl, hb, k3, k4, by simpa using k5, hcur.symm⟩⟩
   rcases List.mem_or_eq_of_mem_set hu with hu | rfl
   ·exact l2 u hu
   ·exact h1
  ·exact h y (by simp [hy])
end
/-! elements cell by cell -/
theorem flatMap_len {α : Type} {f : α → List Value} {k : Nat} (hf : ∀ x, (f x).length = k) (l : List α) : (l.flatMap f).length = l.length * k := by
 induction l with
 | nil => simp
 | cons x l ih => rw [List.flatMap_cons, List.length_append, hf, ih, List.length_cons, Nat.succ_mul]; omega
theorem flatMap_set {α : Type} {f : α → List Value} {k : Nat} (hf : ∀ x, (f x).length = k) {o : Nat} (ho : o < k) {v : Value} : ∀ {l : List α} {i : Nat} {x y : α}, l[i]? = some x → f y = (f x).set o v → (l.flatMap f).set (i * k + o) v = (l.set i y).flatMap f
 | [], i, x, y, h, _ => by simp at h
 | a :: l, 0, x, y, h, e => by
  simp at h
  subst h
  rw [List.set_cons_zero, List.flatMap_cons, List.flatMap_cons, e, Nat.zero_mul, Nat.zero_add, List.set_append_left _ _ (by rw [hf]; exact ho)]
 | a :: l, i + 1, x, y, h, e => by
  rw [List.set_cons_succ, List.flatMap_cons, List.flatMap_cons, List.set_append_right _ _ (by rw [hf, Nat.succ_mul]; omega)]
  congr 1
  rw [hf, show (i + 1) * k + o - k = i * k + o by rw [Nat.succ_mul]; omega]
  exact flatMap_set hf ho (by simpa using h) e
theorem flatMap_one {α : Type} {f : α → List Value} (h1 : ∀ x, ∀ u ∈ f x, u.oneCell' = true) (l : List α) : ∀ u ∈ l.flatMap f, u.oneCell' = true := fun u hu => by
 obtain ⟨x, _, hx⟩ := List.mem_flatMap.1 hu
 exact h1 x u hx
theorem Elems.flat {α : Type} {f : α → List Value} {k : Nat} {R : Mem → List Value → α → Prop} {M : Mem} (hf : ∀ x, (f x).length = k) (hR : ∀ x, R M (f x) x) : ∀ l : List α, Elems k R M (l.flatMap f) l
 | [] => Elems.nil
 | x :: l => by
  have := Elems.append (Elems.one (hf x) (hR x)) (Elems.flat hf hR l)
  rwa [List.flatMap_cons]
theorem SlOf.row {α : Type} {sz n c : Nat} {f : α → List Value} {R : Mem → List Value → α → Prop} {M : Mem} {A : Option Addr} {xs : List α} (h : SlOf sz R M (.slice A n c) xs) (hR : ∀ cs x, R M cs x → cs = f x) (_ : ∀ x, (f x).length = sz) : Row M A xs.length sz (xs.flatMap f) := by
 obtain ⟨cs, -, -, -, -, hrow, hel⟩ := SlOf.cells h
 have hcs : ∀ (cs : List Value) (xs : List α), Elems sz R M cs xs → cs = xs.flatMap f := by
  intro cs xs
  induction xs generalizing cs with
  | nil =>
   intro he
   have := he.1
   simp at this
   simp [this]
  | cons x xs ih =>
   intro he
   have h0 := hR _ _ (he.2 0 x rfl)
   have hl := he.1
   rw [List.length_cons, Nat.succ_mul] at hl
   have ht : Elems sz R M (cs.drop sz) xs := ⟨by rw [List.length_drop]; omega, fun i y hy => by
    have := he.2 (i + 1) y (by simpa using hy)
    rw [Nat.succ_mul] at this
    rwa [List.drop_drop, Nat.add_comm sz]⟩
   rw [List.flatMap_cons, ← ih _ ht]
   rw [Nat.zero_mul, List.drop_zero] at h0
   rw [← h0, List.take_append_drop]
 rw [← hcs cs xs hel]
 exact hrow
end Bf

