/-
  Bytes to strings.
  Conditions: none; plain laws over any program.
-/
import Derived.Test.YtghjhdbmkilakaaGreatDoorWBfRepB
namespace Bf
open Go
theorem Stab.bstrB {P : Program} {fr : Fr} {M : Mem} {L : List Res} {d : Nat} {ty : TypeId} {pos : String} {aft : Array Edge} {g : Option (Nat × Bool)} {t u e : TypeId} {i ui ei : TyI} {x : Operand} {A : Option Addr} {N c : Nat} {l : List UInt8} (hx : ev fr x = some (.slice A N c)) (hT : HasTy P t i) (hU : HasTy P u ui) (hd : i.desc = .slice e) (hud : ui.desc = .string) (hE : HasTy P e ei) (hed : ei.desc = .int .u8)
    (hb : BSl M (.slice A N c) l) : Stab P fr M L ⟨some d, .convert t u x, ty, pos, aft, g⟩ (.string ⟨l.toArray⟩) := by
  obtain ⟨A', c', e, h1, h2, h3, h4⟩ := hb
  cases e
  exact Stab.bstr hx hT hU hd hud hE hed (Src.row h4) rfl h3
end Bf

