/-
 Slices of elements: how their cells are put together.
 Conditions: none; plain laws over any program.
-/
import Derived.Test.YtlifjajcmnkhfaaGreatUBfRep
namespace Bf
open Go

def Elems {α : Type} (sz : Nat) (R : Mem → List Value → α → Prop) (M : Mem) (cs : List Value) (xs : List α) : Prop :=
 cs.length = xs.length * sz ∧ ∀ i x, xs[i]? = some x → R M ((cs.drop (i * sz)).take sz) x
theorem Elems.nil {α : Type} {sz : Nat} {R : Mem → List Value → α → Prop} {M : Mem} : Elems sz R M [] ([] : List α) := ⟨by simp, by simp⟩
theorem Elems.one {α : Type} {sz : Nat} {R : Mem → List Value → α → Prop} {M : Mem} {cs : List Value} {x : α} (hl : cs.length = sz) (h : R M cs x) : Elems sz R M cs [x] :=
 ⟨by simp [hl], fun i y hy => by
  cases i with
  | zero =>
   simp at hy; subst hy
   rw [Nat.zero_mul, List.drop_zero, List.take_of_length_le (by omega)]; exact h
  | succ n => simp at hy⟩
theorem Elems.mono {α : Type} {sz : Nat} {R : Mem → List Value → α → Prop} (hR : ∀ M M' c x, Mem.le M M' → R M c x → R M' c x) {M M' : Mem} {cs : List Value} {xs : List α} (h : Elems sz R M cs xs) (hm : Mem.le M M') : Elems sz R M' cs xs :=
 ⟨h.1, fun i x hx => hR _ _ _ _ hm (h.2 i x hx)⟩
theorem Elems.append {α : Type} {sz : Nat} {R : Mem → List Value → α → Prop} {M : Mem} {cs ds : List Value} {xs ys : List α} (h1 : Elems sz R M cs xs) (h2 : Elems sz R M ds ys) : Elems sz R M (cs ++ ds) (xs ++ ys) := by
 refine ⟨by simp [h1.1, h2.1, Nat.add_mul], fun i x hx => ?_⟩
 by_cases hi : i < xs.length
 ·rw [List.getElem?_append_left hi] at hx
  have hle : (i + 1) * sz ≤ xs.length * sz := Nat.mul_le_mul_right _ hi
  rw [Nat.add_mul, Nat.one_mul] at hle
  have := h1.1
  rw [List.drop_append_of_le_length (by omega), List.take_append_of_le_length (by rw [List.length_drop]; omega)]
  exact h1.2 i x hx
 ·obtain ⟨k, rfl⟩ : ∃ k, i = xs.length + k := ⟨i - xs.length, by omega⟩
  rw [List.getElem?_append_right (by omega)] at hx
  rw [Nat.add_mul, ← h1.1, List.drop_append, List.drop_eq_nil_of_le (by omega), List.nil_append]
  have e : cs.length + k * sz - cs.length = k * sz := by omega
  rw [e]
  exact h2.2 k x (by simpa using hx)
theorem Elems.set {α : Type} {R : Mem → List Value → α → Prop} {M : Mem} {cs : List Value} {xs : List α} (h : Elems 1 R M cs xs) {i : Nat} {v : Value} {x : α} (hv : R M [v] x) : Elems 1 R M (cs.set i v) (xs.set i x) := by
 refine ⟨by simp [h.1], fun j y hy => ?_⟩
 by_cases e : i = j
 ·subst e
  have hlt : i < (xs.set i x).length := (List.getElem?_eq_some_iff.1 hy).1
  have hlt' : i < xs.length := by simpa using hlt
  have hc : i < cs.length := by rw [h.1]; omega
  rw [List.getElem?_set_self hlt'] at hy
  cases hy
  have : ((cs.set i v).drop (i * 1)).take 1 = [v] := by
   rw [Nat.mul_one, List.take_one, List.head?_drop, List.getElem?_set_self hc]; rfl
  rw [this]; exact hv
 ·rw [List.getElem?_set_ne e] at hy
  have : ((cs.set i v).drop (j * 1)).take 1 = (cs.drop (j * 1)).take 1 := by
   rw [Nat.mul_one, List.take_one, List.take_one, List.head?_drop, List.head?_drop, List.getElem?_set_ne e]
  rw [this]; exact h.2 j y hy
theorem SlOf.cells {α : Type} {sz n c : Nat} {R : Mem → List Value → α → Prop} {M : Mem} {A : Option Addr} {xs : List α} (h : SlOf sz R M (.slice A n c) xs) :
  ∃ cells, n = xs.length ∧ xs.length ≤ c ∧ c ≤ 9223372036854775807 ∧ (A = none → xs.length = 0) ∧ Row M A xs.length sz cells ∧ Elems sz R M cells xs := by
 obtain ⟨A', c', cells, e, h2, h3, h4, h5, h6⟩ := h
 cases e
 exact ⟨cells, rfl, h2, h3, h4, h5, h5.len, h6⟩
theorem SlOf.ofOwn {α : Type} {sz e n c : Nat} {R : Mem → List Value → α → Prop} {M : Mem} {A : Option Addr} {xs : List α} {cells : List Value} (h : (ownS e sz A n c cells).ok M) (hn : n = xs.length) (hc : c ≤ 9223372036854775807)
  (hE : Elems sz R M cells xs) : SlOf sz R M (.slice A xs.length c) xs := by
 subst hn
 obtain ⟨h1, h2, h3⟩ := Row.of_own h
 exact ⟨A, c, cells, rfl, h2, hc, h3, h1, hE.2⟩
theorem SlOf.ofBox {α : Type} {sz b t : Nat} {R : Mem → List Value → α → Prop} {M : Mem} {xs : List α} {cells : List Value} (h : (box b t cells).ok M) (h1 : ∀ u ∈ cells, u.oneCell' = true) (hc : xs.length ≤ 9223372036854775807)
  (hE : Elems sz R M cells xs) : SlOf sz R M (.slice (some ⟨b, 0, none⟩) xs.length xs.length) xs := by
 have hr := Row.of_box (n := xs.length) (sz := sz) h (by rw [hE.1]; exact Nat.le_refl _) (fun u hu => h1 u (List.mem_of_mem_take hu))
 rw [List.take_of_length_le (by rw [hE.1]; exact Nat.le_refl _)] at hr
 exact ⟨_, _, cells, rfl, Nat.le_refl _, hc, fun h => (by cases h), hr, hE.2⟩
theorem BSl.ofBox {M : Mem} {b t : Nat} {bs : List UInt8} (h : (box b t (byteV bs)).ok M) (hl : bs.length ≤ 9223372036854775807) : BSl M (.slice (some ⟨b, 0, none⟩) bs.length bs.length) bs := by
 have hr := Row.of_box (n := bs.length) (sz := 1) h (by simp) (fun u hu => byteV_one bs u (List.mem_of_mem_take hu))
 have e : (byteV bs).take (bs.length * 1) = byteV bs := by rw [List.take_of_length_le]; simp
 rw [e] at hr
 exact ⟨_, _, rfl, Nat.le_refl _, hl, fun h => (by cases h), hr⟩
theorem BSl.ofOwn {M : Mem} {e n c : Nat} {A : Option Addr} {bs : List UInt8} (h : (ownS e 1 A n c (byteV bs)).ok M) (hn : n = bs.length) (hc : c ≤ 9223372036854775807) : BSl M (.slice A bs.length c) bs := by
 subst hn
 obtain ⟨h1, h2, h3⟩ := Row.of_own h
 exact ⟨A, c, rfl, h2, hc, h3, h1⟩
theorem SlOf.ofBoxC {α : Type} {sz b t n c : Nat} {R : Mem → List Value → α → Prop} {M : Mem} {xs : List α} {cur : List Value} (h : (box b t cur).ok M) (hn : n = xs.length) (hl : cur.length = c * sz) (hnc : n ≤ c) (hc : c ≤ 9223372036854775807) (h1 : ∀ u ∈ cur.take (n * sz), u.oneCell' = true)
  (hE : Elems sz R M (cur.take (n * sz)) xs) : SlOf sz R M (.slice (some ⟨b, 0, none⟩) xs.length c) xs := by
 subst hn
 have hr := Row.of_box (n := xs.length) (sz := sz) h (by rw [hl]; exact Nat.mul_le_mul_right _ hnc) h1
 exact ⟨_, _, _, rfl, hnc, hc, fun h => (by cases h), hr, hE.2⟩
theorem Tr.own_open {E : World} {n : Nat} {fr : Fr} {D : List Deferred} {M : Mem} {L L' : List Res} {X : Act → World → Prop} {e sz N c : Nat} {A : Option Addr} {xs : List Value} (hL : Del L (ownS e sz A N c xs) L') (hN : 0 < N)
  (k : ∀ g cur, A = some ⟨g, 0, none⟩ → N ≤ c → cur.length = c * sz → cur.take (N * sz) = xs → Tr E ⟨n, fr, D, M, box g e cur :: L'⟩ X) : Tr E ⟨n, fr, D, M, L⟩ X := fun a w hs => by
 have h0 := hs.own.perm hL.perm
 obtain ⟨h1, h2, h3⟩ := h0.res _ (List.mem_cons_self ..)
 rcases h3 with ⟨_, rfl, _⟩ | ⟨g, cur, rfl, k2, k3, k4, k5, k6⟩
 ·omega
 refine k g cur.toList rfl k3 (by simpa using k5) k6 a w ⟨hs.fits, h0.upd (r' := box g e cur.toList) Upd.here ⟨rfl, rfl, rfl⟩ (Nat.le_refl _) (fun _ _ _ => rfl) (by simpa [box, pt] using k2) (fun c hc => ?_) (by simp [box, pt])⟩
 have : c = g := by simpa [box, pt] using hc
 subst this
 exact ⟨h0.lt _ (List.mem_cons_self ..) c (by simp [ownS]), .inl (by simp [ownS])⟩
end Bf

