/-
  The bytes of a string copied into an owned block.
  Conditions: none; plain laws over any program.
-/
import Derived.Test.YtghjhdbmkilakaaGreatDoorWBfMem
import Derived.Lib.BufferWrite
namespace Bf
open Go
theorem byteCells_byteV (l : List UInt8) : Go.Lib.byteCells l = byteV l := by simp [Go.Lib.byteCells, byteV]
section
variable {r : Option Nat} {P : Program} {E : World} {Q : Exit → Act → World → Prop} {n : Nat} {fr : Fr} {D : List Deferred} {M : Mem} {L L' : List Res} {K : S → Prop}
variable {d : Nat} {ty : TypeId} {pos : String} {aft : Array Edge} {g : Option (Nat × Bool)}
theorem Exec.copyStr {t u : TypeId} {i ei : TyI} {e : TypeId} {x y : Operand} {b off dn dc t0 : Nat} {cs : List Value} {l : List UInt8} (hx : ev fr x = some (.slice (some ⟨b, off, none⟩) dn dc)) (hy : ev fr y = some (.string ⟨l.toArray⟩))
    (hT : HasTy P t i) (hd : i.desc = .slice e) (hE : HasTy P e ei) (he : ei.size = 1) (hle : l.length ≤ dn) (hfit : off + l.length ≤ cs.length)
    (hL : Upd L (Bf.box b t0 cs) (Bf.box b t0 (cs.take off ++ byteV l ++ cs.drop (off + l.length))) L') (hn : Nat.blt d n = true)
    (k : K ⟨n, (d, .int .i64 (l.length : Nat)) :: fr, D, M, L'⟩) :
    Exec r P E Q ⟨n, fr, D, M, L⟩ ⟨some d, .call { callee := .builtin .copy, args := #[x, y], argTypes := #[t, u] }, ty, pos, aft, g⟩ K :=
  Exec.of_run (R := fun v M' L'' => v = .int .i64 (l.length : Nat) ∧ M' = M ∧ L'' = L') rfl hn
    (fun a w hh => by
      obtain ⟨_, j, hj, hjs, _, _⟩ := hE
      have hu := hT.1
      rw [hd] at hu
      have hb := hh.own.box_at hL.mem
      have hsz : (⟨l.toArray⟩ : ByteArray).size = l.length := by simp [ByteArray.size]
      have hrun := Go.Lib.run_copy_row_string (P := P) w t u ty e b off dn dc ⟨l.toArray⟩ cs.toArray t0 hu (by simp [hj, hjs, he]) hb (by rw [hsz]; exact hle) (by rw [hsz]; simpa using hfit)
      rw [hsz] at hrun
      have e1 : Go.Lib.byteCells (⟨l.toArray⟩ : ByteArray).data.toList = byteV l := byteCells_byteV l
      rw [e1] at hrun
      refine ⟨_, _, M, L', ?_, hh.own.setRow hL, rfl, rfl, rfl⟩
      simp only [execOp, resolve, invoke, builtin, Sem.run_bind, Sem.run_pure, Result.andThen_ok, List.map_toArray, List.map_cons, List.map_nil, hh.fits.ev hx, hh.fits.ev hy, hrun, goInt])
    (by rintro _ _ _ ⟨rfl, rfl, rfl⟩; exact k)
end
end Bf

