/-
  The disk: how a list of acts reads.
  Conditions: none.
-/
import Derived.Test.YtfmfakgokgcjmaaE5
namespace Go.Proofs.Ytfmfakgokgcjmaa
open Go Bf
open Go.ChangeShapes Go.WideShapes Go.ChangeAt Go.RowKit
structure Act3 where
  sync : Bool
  at_ : UInt8
  byte : UInt8
def RAct (_ : Mem) (c : List Value) (x : Act3) : Prop := c = [.bool x.sync, .int .u8 (x.at_.toNat : Int), .int .u8 (x.byte.toNat : Int)]
theorem RAct.mono (M M' : Mem) (c : List Value) (x : Act3) (_ : Mem.le M M') (h : RAct M c x) : RAct M' c x := h
theorem u43 : Try.prog.underlying 43 = some (.slice 46) := (tysOk.get (t := 43) rfl).1
theorem c46 : Try.prog.cellsOf 46 = 3 := by kernel_rfl
theorem read_u8 {H : Type} {enc : TypeId × Value → H} {w : World} {sp : Nat → Bool} {held : Bool} {fuel : Nat} {cs : List Value} {x : DataW H × List MemPlace} (h : DataW.trod enc Try.prog w 0 sp held fuel 5 cs = some x) : ∃ a : UInt8, cs = [.int .u8 (a.toNat : Int)] := by
  obtain ⟨n, e, hw⟩ := read_int u5 h
  have hmin : IntKind.u8.min = 0 := by decide
  have hmax : IntKind.u8.max = 255 := by decide
  have : 0 ≤ n ∧ n ≤ 255 := by simpa [Lit.wf, hmin, hmax] using hw
  refine ⟨UInt8.ofNat n.toNat, ?_⟩
  have e' : ((UInt8.ofNat n.toNat).toNat : Int) = n := by
    simp [UInt8.toNat_ofNat']
    omega
  rw [e', e]
theorem arg_acts {H : Type} {enc : TypeId × Value → H} {W : World} {base : Nat} {v : Value} (h : Arg enc Try.prog W base 43 v) : ∃ (l : List Act3) (A : Option Addr) (c : Nat), v = .slice A l.length c ∧ SlOf 3 RAct (Bf.hp W) (.slice A l.length c) l := by
  obtain ⟨k0, f0, x, g0⟩ := h
  obtain ⟨A, len, cap, rfl⟩ := okWide_slice u43 k0
  obtain ⟨l, A', c, e, hs⟩ := read_slOf (R := RAct) u43 c46 (by omega) (fun f cs y hl hy => by
    obtain ⟨a, b, c, rfl⟩ := len3 hl
    obtain ⟨_, g, hg⟩ := read_struct Try.underlying46 hy
    obtain ⟨z0, k0⟩ : ∃ y, DataW.trod enc Try.prog W 0 (fun _ => true) true g 4 (([a, b, c].drop 0).take (Try.prog.cellsOf 4)) = some y := hg 0 _ rfl
    rw [c4] at k0
    obtain ⟨z1, k1⟩ : ∃ y, DataW.trod enc Try.prog W 0 (fun _ => true) true g 5 (([a, b, c].drop 1).take (Try.prog.cellsOf 5)) = some y := hg 1 _ rfl
    rw [c5] at k1
    obtain ⟨z2, k2⟩ : ∃ y, DataW.trod enc Try.prog W 0 (fun _ => true) true g 5 (([a, b, c].drop 2).take (Try.prog.cellsOf 5)) = some y := hg 2 _ rfl
    rw [c5] at k2
    obtain ⟨s, e0⟩ := read_bool u4 k0
    obtain ⟨p, e1⟩ := read_u8 k1
    obtain ⟨q, e2⟩ := read_u8 k2
    cases e0
    cases e1
    cases e2
    exact ⟨by intro u hu; simp at hu; rcases hu with rfl | rfl | rfl <;> rfl, ⟨s, p, q⟩, rfl⟩) g0
  cases e
  exact ⟨l, _, _, rfl, hs⟩
end Go.Proofs.Ytfmfakgokgcjmaa
