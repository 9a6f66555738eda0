/-
  The rest of a block's cells, loaded as one value.
  Conditions: none; plain laws over any program.
-/
import Derived.Test.YtghjhdbmkilakaaGreatDoorWBfEff
import Derived.Test.YtghjhdbmkilakaaGreatDoorWBfByte
namespace Bf
open Go
theorem TakeL.whole : ∀ (l : List Value), TakeL l.length l l
  | [] => .z
  | _ :: l => .s (TakeL.whole l)
theorem Stab.loadT {P : Program} {fr : Fr} {M : Mem} {L : List Res} {d : Nat} {ty : TypeId} {pos : String} {aft : Array Edge} {g : Option (Nat × Bool)} {t : TypeId} {i : TyI} {x : Operand} {b off : Nat} {t0 : TypeId} {cs r : List Value} (hx : ev fr x = some (.pointer (some ⟨b, off, none⟩)))
    (hT : HasTy P t i) (ha : TypeDesc.agg i.desc = true) (hL : Has L (box b t0 cs)) (hr : dropL off cs = r) (hl : r.length = i.size) :
    Stab P fr M L ⟨some d, .load t x, ty, pos, aft, g⟩ (.agg r.toArray) :=
  Stab.loadP hx hT ha hL (by rw [hr, ← hl]; exact TakeL.whole r)
theorem TrA.less {r : Option Nat} {P : Program} {E : World} {ops : Array Oper} {Q : Exit → Act → World → Prop} {B L : List Res} {fuel n : Nat} {l : List Nat} {fr fr' : Fr} {D : List Deferred} {M : Mem} (hf : SubFr fr fr')
    (k : TrA r P E ops Q B fuel l ⟨n, fr', D, M, L⟩) : TrA r P E ops Q B fuel l ⟨n, fr, D, M, L⟩ := fun a w hs => k a w (holds_sub hf DropL.refl a w hs)
/-- a part of the code of a function, by its place -/
def tailC : Nat → Code → Code
  | n + 1, .seq _ c => tailC n c
  | _, c => c
def headC : Code → Code
  | .seq c _ => c
  | c => c
def opsC : Code → Array Oper
  | .region _ ops _ => ops
  | _ => #[]
theorem TrA.cells {r : Option Nat} {P : Program} {E : World} {ops : Array Oper} {Q : Exit → Act → World → Prop} {B L L' : List Res} {fuel n : Nat} {l : List Nat} {fr : Fr} {D : List Deferred} {M : Mem} {b t : Nat} {cs cs' : List Value} (hL : Upd L (box b t cs) (box b t cs') L') (he : cs = cs')
    (k : TrA r P E ops Q B fuel l ⟨n, fr, D, M, L'⟩) : TrA r P E ops Q B fuel l ⟨n, fr, D, M, L⟩ := by
  subst he
  rwa [hL.same] at k
end Bf

