/-
  What a function hands out becomes immutable.
  Conditions: none; plain laws over any program.
-/
import Derived.Test.YtghjhdbmkilakaaGreatDoorWBfCall
namespace Bf
open Go
theorem Fn.publish1 {P : Program} {f : FuncId} {args : List Value} {M : Mem} {A : List Res} {R : Value → Mem → List Res → Prop} {R' : Value → Mem → Prop} (h : Fn P f args M A R)
    (k : ∀ v M' A', Mem.le M M' → R v M' A' → ∃ x, A' = [x] ∧ ∀ M'', Mem.le M' M'' → x.ok M'' → R' v M'') : Fn P f args M A fun v M' A' => A' = [] ∧ R' v M' :=
  ⟨h.1, fun E F w hw => (h.2 E F w hw).mono fun e w' ⟨v, M', A', h1, h2, h3, h4⟩ => by
    obtain ⟨x, rfl, hx⟩ := k v M' A' h2 h4
    obtain ⟨M'', g1, g2, g3, -⟩ := h3.publish
    exact ⟨v, M'', [], h1, h2.trans g2, g1, rfl, hx M'' g2 g3⟩⟩
end Bf

