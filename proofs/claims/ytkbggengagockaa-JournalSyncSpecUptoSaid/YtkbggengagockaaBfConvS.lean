/-
  The conversion that the translation lays behind the bytes of a constant string: the block is marked, and becomes immutable.
  Conditions: none; plain laws over any program.
-/
import Derived.Test.YtkbggengagockaaBfByte
namespace Bf
open Go
section
variable {r : Option Nat} {P : Program} {E : World} {Q : Exit → Act → World → Prop} {n : Nat} {fr : Fr} {D : List Deferred} {M : Mem} {L L' : List Res} {K : S → Prop}
variable {d : Nat} {ty : TypeId} {pos : String} {aft : Array Edge} {g : Option (Nat × Bool)}
theorem hp_freeze {w : World} {b k t : Nat} {C : Array Value} (hb : w.heap[b]? = some (.cells C t (0, 0))) : (∀ c, c ≠ b → hp (w.freeze ⟨b, k, none⟩ 1) c = hp w c) ∧ hp (w.freeze ⟨b, k, none⟩ 1) b = some (.cells C t (k, k + 1)) ∧ (w.freeze ⟨b, k, none⟩ 1).heap.size = w.heap.size := by
  have hlt : b < w.heap.size := (Array.getElem?_eq_some_iff.1 hb).1
  have hget : w.heap[b] = .cells C t (0, 0) := (Array.getElem?_eq_some_iff.1 hb).2
  unfold World.freeze hp
  rw [if_neg (by decide)]
  refine ⟨fun c hc => ?_, ?_, by simp⟩
  · rw [Array.getElem?_modify, if_neg (fun h => hc h.symm)]
  · rw [Array.getElem?_modify, if_pos rfl, hb]
    rfl
theorem Exec.convMark {t e e0 : TypeId} {i ei : TyI} {x : Operand} {b c : Nat} {l : List UInt8} (hx : ev fr x = some (.slice (some ⟨b, 0, none⟩) l.length c)) (hT : HasTy P t i) (hd : i.desc = .slice e) (hE : HasTy P e ei) (hed : ei.desc = .int .u8)
    (hL : Del L (Bf.box b e0 (byteV l)) L') (hl : l.length ≤ c) (hc : c ≤ 9223372036854775807) (hn : Nat.blt d n = true)
    (k : ∀ M', Mem.le M M' → BSl M' (.slice (some ⟨b, 0, none⟩) l.length c) l → K ⟨n, (d, .slice (some ⟨b, 0, none⟩) l.length c) :: fr, D, M', L'⟩) :
    Exec r P E Q ⟨n, fr, D, M, L⟩ ⟨some d, .convert t t x, ty, pos, aft, g⟩ K := by
  refine Exec.of_run (R := fun v M' L'' => v = .slice (some ⟨b, 0, none⟩) l.length c ∧ Mem.le M M' ∧ BSl M' (.slice (some ⟨b, 0, none⟩) l.length c) l ∧ L'' = L') rfl hn (fun a w hh => ?_) (by rintro _ _ _ ⟨rfl, h1, h2, rfl⟩; exact k _ h1 h2)
  have hu := hT.1
  rw [hd] at hu
  have he := hE.1
  rw [hed] at he
  have ho0 := hh.own.perm hL.perm
  have hb := ho0.box_at (List.mem_cons_self ..)
  obtain ⟨f1, f2, f3⟩ := hp_freeze (k := (byteV l).length) hb
  have ho : Own E M (pt b (.cells (byteV l).toArray e0 ((byteV l).length, (byteV l).length + 1)) :: L') (w.freeze ⟨b, (byteV l).length, none⟩ 1) := by
    refine ho0.upd (.here) ⟨?_, ?_, ?_⟩ (by rw [f3]; exact Nat.le_refl _) (fun q hq _ => f1 q (by simpa [Bf.box, pt] using hq)) f2 (fun q hq => ?_) (by simp [pt])
    · unfold World.freeze; rw [if_neg (by decide)]
    · unfold World.freeze; rw [if_neg (by decide)]
    · unfold World.freeze; rw [if_neg (by decide)]
    · have : q = b := by simpa [pt] using hq
      subst this
      exact ⟨by rw [f3]; exact (Array.getElem?_eq_some_iff.1 hb).1, .inl (by simp [Bf.box, pt])⟩
  obtain ⟨M', o1, o2, o3, -⟩ := ho.publish
  refine ⟨_, _, M', L', ?_, o1, rfl, o2, BSl.mk hl hc (fun h => by cases h) ⟨by simp, byteV_one l, fun _ => ⟨_, rfl, rfl, _, _, _, o3, fun j v hv => by simpa using hv⟩⟩, rfl⟩
  have hsh : w.shape? b = some (e0, (byteV l).length) := by unfold World.shape?; rw [hb]; simp
  have hconv : (convert t t (.slice (some ⟨b, 0, none⟩) l.length c)).run P w = .ok (.slice (some ⟨b, 0, none⟩) l.length c) (w.freeze ⟨b, (byteV l).length, none⟩ 1) := by
    simp [convert, run_underlying hu, run_underlying he, markStringish, hsh]
  simp only [execOp, hh.fits.ev hx, Sem.run_bind, hconv, Result.andThen_ok, Sem.run_pure]
end
end Bf
