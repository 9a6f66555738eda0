/-
 How Go's slices read as lists, in immutable memory.
 Conditions: none; plain laws over any program.
-/
import Derived.Test.YtlifjajcmnkhfaaGreatUBfMem
namespace Bf
open Go

def SlOf {α : Type} (sz : Nat) (R : Mem → List Value → α → Prop) (M : Mem) (v : Value) (xs : List α) : Prop :=
 ∃ A c cells, v = .slice A xs.length c ∧ xs.length ≤ c ∧ c ≤ 9223372036854775807 ∧ (A = none → xs.length = 0) ∧ Row M A xs.length sz cells ∧ ∀ i x, xs[i]? = some x → R M ((cells.drop (i * sz)).take sz) x
def BSl (M : Mem) (v : Value) (bs : List UInt8) : Prop := ∃ A c, v = .slice A bs.length c ∧ bs.length ≤ c ∧ c ≤ 9223372036854775807 ∧ (A = none → bs.length = 0) ∧ Row M A bs.length 1 (byteV bs)
theorem BSl.mono {M M' : Mem} {v : Value} {bs : List UInt8} (h : BSl M v bs) (hm : Mem.le M M') : BSl M' v bs := by
 obtain ⟨A, c, h1, h2, h3, h4, h5⟩ := h
 exact ⟨A, c, h1, h2, h3, h4, h5.mono hm⟩
theorem SlOf.mono {α : Type} {sz : Nat} {R : Mem → List Value → α → Prop} (hR : ∀ M M' c x, Mem.le M M' → R M c x → R M' c x) {M M' : Mem} {v : Value} {xs : List α} (h : SlOf sz R M v xs) (hm : Mem.le M M') : SlOf sz R M' v xs := by
 obtain ⟨A, c, cells, h1, h2, h3, h4, h5, h6⟩ := h
 exact ⟨A, c, cells, h1, h2, h3, h4, h5.mono hm, fun i x hx => hR _ _ _ _ hm (h6 i x hx)⟩
theorem BSl.nil (M : Mem) : BSl M (.slice none 0 0) [] := ⟨none, 0, rfl, by simp, by simp, by simp, Row.nil _ _ _⟩
theorem SlOf.nil {α : Type} (sz : Nat) (R : Mem → List Value → α → Prop) (M : Mem) : SlOf sz R M (.slice none 0 0) ([] : List α) := ⟨none, 0, [], rfl, by simp, by simp, by simp, Row.nil _ _ _, by simp⟩
theorem BSl.one {M : Mem} {v : Value} {bs : List UInt8} (h : BSl M v bs) : v.oneCell' = true := by obtain ⟨A, c, rfl, _⟩ := h; rfl
theorem SlOf.one {α : Type} {sz : Nat} {R : Mem → List Value → α → Prop} {M : Mem} {v : Value} {xs : List α} (h : SlOf sz R M v xs) : v.oneCell' = true := by obtain ⟨A, c, _, rfl, _⟩ := h; rfl
theorem SlOf.elem {α : Type} {sz : Nat} {R : Mem → List Value → α → Prop} {M : Mem} {A : Option Addr} {n c : Nat} {xs : List α} (h : SlOf sz R M (.slice A n c) xs) {i : Nat} {x : α} (hi : xs[i]? = some x) :
  A.isSome = true ∧ ∃ ch, At M ((A.getD default).add (i * sz)) ch ∧ R M ch x := by
 obtain ⟨A', c', cells, h1, h2, h3, h4, h5, h6⟩ := h
 cases h1
 have hlt := (List.getElem?_eq_some_iff.1 hi).1
 obtain ⟨h7, h8⟩ := h5.elem hlt
 exact ⟨h7, _, h8, h6 i x hi⟩
theorem get_of_lt {α : Type} {xs : List α} {i : Nat} (h : i < xs.length) : ∃ x, xs[i]? = some x := ⟨xs[i], by simp [h]⟩
theorem SlOf.len_le {α : Type} {sz : Nat} {R : Mem → List Value → α → Prop} {M : Mem} {v : Value} {xs : List α} (h : SlOf sz R M v xs) : xs.length ≤ 9223372036854775807 := by obtain ⟨_, c, _, _, h2, h3, _⟩ := h; omega
theorem BSl.len_le {M : Mem} {v : Value} {bs : List UInt8} (h : BSl M v bs) : bs.length ≤ 9223372036854775807 := by obtain ⟨_, c, _, h2, h3, _⟩ := h; omega
end Bf

