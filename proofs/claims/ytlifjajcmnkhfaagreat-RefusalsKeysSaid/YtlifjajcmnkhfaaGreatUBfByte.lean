/-
 Bytes: lists of bytes as cells and slices.
 Conditions: none; plain laws over any program.
-/
import Derived.Test.YtlifjajcmnkhfaaGreatUBfRepB
import Derived.Test.YtlifjajcmnkhfaaGreatUBfCut
namespace Bf
open Go
theorem BSl.cap {M : Mem} {A : Option Addr} {n c : Nat} {bs : List UInt8} (h : BSl M (.slice A n c) bs) : bs.length ≤ c ∧ c ≤ 9223372036854775807 ∧ (A = none → bs.length = 0) ∧ Row M A bs.length 1 (byteV bs) := by
 obtain ⟨_, _, e, h1, h2, h3, h4⟩ := h
 cases e
 exact ⟨h1, h2, h3, h4⟩
theorem BSl.len {M : Mem} {A : Option Addr} {n c : Nat} {bs : List UInt8} (h : BSl M (.slice A n c) bs) : n = bs.length := by
 obtain ⟨_, _, e, _⟩ := h
 cases e
 rfl
theorem BSl.mk {M : Mem} {A : Option Addr} {c : Nat} {bs : List UInt8} (h1 : bs.length ≤ c) (h2 : c ≤ 9223372036854775807) (h3 : A = none → bs.length = 0) (h4 : Row M A bs.length 1 (byteV bs)) : BSl M (.slice A bs.length c) bs := ⟨A, c, rfl, h1, h2, h3, h4⟩
theorem BSl.pre {M : Mem} {A : Option Addr} {n c k m : Nat} {bs : List UInt8} (h : BSl M (.slice A n c) bs) (hk : k ≤ bs.length) (hm : k ≤ m) (hmc : m ≤ c) : BSl M (.slice A k m) (bs.take k) := by
 obtain ⟨h1, h2, h3, h4⟩ := h.cap
 have hlen : (bs.take k).length = k := by simp; omega
 have hr := h4.take hk
 rw [Nat.mul_one, byteV, ← List.map_take] at hr
 have := BSl.mk (c := m) (A := A) (bs := bs.take k) (by omega) (by omega) (fun h => by have := h3 h; omega) (by rw [hlen]; exact hr)
 rwa [hlen] at this
theorem BSl.sub {M : Mem} {A : Option Addr} {n c l k m : Nat} {bs : List UInt8} (h : BSl M (.slice A n c) bs) (hl : l ≤ k) (hk : k ≤ bs.length) (hm : k ≤ m) (hmc : m ≤ c) :
  BSl M (.slice (if m = l then A else A.map (·.add (l * 1))) (k - l) (m - l)) ((bs.drop l).take (k - l)) := by
 obtain ⟨h1, h2, h3, h4⟩ := h.cap
 have hlen : ((bs.drop l).take (k - l)).length = k - l := by simp; omega
 have hr := h4.sub (c := max m bs.length) hl hk (by omega)
 have e : ((byteV bs).drop (l * 1)).take ((k - l) * 1) = byteV ((bs.drop l).take (k - l)) := by simp [byteV, List.map_take, List.map_drop]
 rw [e] at hr
 have hfin : ∀ B : Option Addr, (B = none → k - l = 0) → Row M B (k - l) 1 (byteV ((bs.drop l).take (k - l))) → BSl M (.slice B (k - l) (m - l)) ((bs.drop l).take (k - l)) := fun B hB hR => by
  have := BSl.mk (c := m - l) (A := B) (bs := (bs.drop l).take (k - l)) (by omega) (by omega) (by rw [hlen]; exact hB) (by rw [hlen]; exact hR)
  rwa [hlen] at this
 refine hfin _ ?_ ?_
 ·split
  ·intro _; omega
  ·cases A with
   | none => intro _; have := h3 rfl; omega
   | some a => intro h; cases h
 ·by_cases e1 : m = l
  ·rw [if_pos e1]
   have : k - l = 0 := by omega
   rw [this]
   simpa [byteV] using Row.nil M A 1
  ·rw [if_neg e1]
   by_cases e2 : max m bs.length = l
   ·have : k - l = 0 := by omega
    rw [this]
    simpa [byteV] using Row.nil M _ 1
   ·rwa [if_neg e2] at hr
theorem Upd.same {L L' : List Res} {r : Res} (h : Upd L r r L') : L' = L := by
 obtain ⟨A, B, h1, h2⟩ := h.split
 rw [h1, h2]
theorem Tr.cells {E : World} {n : Nat} {fr : Fr} {D : List Deferred} {M : Mem} {L L' : List Res} {X : Act → World → Prop} {b t : Nat} {cs cs' : List Value} (hL : Upd L (box b t cs) (box b t cs') L') (he : cs = cs') (h : Tr E ⟨n, fr, D, M, L'⟩ X) : Tr E ⟨n, fr, D, M, L⟩ X := by
 subst he
 rwa [hL.same] at h
end Bf

