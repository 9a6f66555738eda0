/-
 make of a slice whose elements are several cells.
 Conditions: none; plain laws over any program.
-/
import Derived.Test.YtmikfjcdgkopkaaGreatWBfMem
namespace Bf
open Go
section
variable {P : Program} {r : Option Nat} {E : World} {Q : Exit → Act → World → Prop} {K : S → Prop} {n : Nat} {fr : Fr} {D : List Deferred} {M : Mem} {L : List Res} {d : Nat} {ty : TypeId} {pos : String} {aft : Array Edge} {g : Option (Nat × Bool)}
theorem Exec.makeZ {t e : TypeId} {i ei : TyI} {sz : Nat} {z : List Value} {x y : Operand} {kl kc : IntKind} {l c : Int} (hx : ev fr x = some (.int kl l)) (hy : ev fr y = some (.int kc c))
  (hT : HasTy P t i) (hd : i.desc = .slice e) (hE : HasTy P e ei) (hsz : szOf ei = some sz) (hz : ei.zero.cells.toList = z) (hzl : z.length = sz) (hp : Nat.blt 0 sz = true) (h0 : 0 ≤ l) (hlc : l ≤ c) (hb : (ei.bytes : Int) * c ≤ 281474976710656) (h63 : c ≤ 9223372036854775807)
  (hn : Nat.blt d n = true) (k : ∀ b, K ⟨n, (d, .slice (some ⟨b, 0, none⟩) l.toNat c.toNat) :: fr, D, M, Bf.box b e (zerosL z c.toNat) :: L⟩) :
  Exec r P E Q ⟨n, fr, D, M, L⟩ ⟨some d, .makeSlice t x y, ty, pos, aft, g⟩ K := by
 obtain rfl := szOf_eq hsz
 exact
 Exec.of_run (R := fun v M' L' => ∃ b, v = .slice (some ⟨b, 0, none⟩) l.toNat c.toNat ∧ M' = M ∧ L' = Bf.box b e (zerosL z c.toNat) :: L) rfl hn
  (fun a w hh => by
   have hpos : 0 < ei.size := Nat.blt_eq.mp hp
   have hzero := zerosL_eq z (by omega) c.toNat
   rw [hzl] at hzero
   have hzz : ei.zero.cells = z.toArray := by rw [← hz]
   obtain ⟨_, j, hj, hjs, hjb, hjz⟩ := hE
   have hu := hT.1
   rw [hd] at hu
   have hr := run_make (P := P) w t e j ei.zero hu hj hjz kl kc l c h0 hlc (by rw [hjb]; exact hb) h63
   have hm : madeCells ei.zero.cells (c.toNat * j.size) = (zerosL z c.toNat).toArray := by
    rw [hjs, ← hzero, hzz]
    rfl
   rw [hm] at hr
   exact ⟨_, _, M, _, by simp only [execOp, hh.fits.ev hx, hh.fits.ev hy, Sem.run_bind, hr, Result.andThen_ok, Sem.run_pure], hh.own.alloc _, _, rfl, rfl, rfl⟩)
  (by rintro _ _ _ ⟨b, rfl, rfl, rfl⟩; exact k b)
end
end Bf

