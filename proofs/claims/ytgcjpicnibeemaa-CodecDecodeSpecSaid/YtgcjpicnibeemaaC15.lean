/-
  The codec: how the arguments of the laws read.
  Conditions: none.
-/
import Derived.Test.YtgcjpicnibeemaaC1
import Derived.Test.YtgcjpicnibeemaaBfRow
import Derived.Test.YtgcjpicnibeemaaRows
import Derived.ProofKit
namespace Go.Proofs.Ytgcjpicnibeemaa
open Go Bf
open Go.ChangeShapes Go.WideShapes Go.ChangeAt Go.RowKit
section
variable {H : Type} {enc : TypeId × Value → H} {W : World} {base : Nat} {v : Value}
theorem arg_int (h : Arg enc Try.prog W base 3 v) : ∃ a : Int, v = .int .i64 a ∧ -9223372036854775808 ≤ a ∧ a ≤ 9223372036854775807 := by
  obtain ⟨k0, f0, x, g0⟩ := h
  obtain ⟨n, rfl⟩ := okWide_int Try.underlying3 k0
  obtain ⟨m, e, hw⟩ := read_int Try.underlying3 g0
  simp [Value.cells] at e
  subst e
  have hmin : IntKind.i64.min = -9223372036854775808 := by decide
  have hmax : IntKind.i64.max = 9223372036854775807 := by decide
  have : -9223372036854775808 ≤ n ∧ n ≤ 9223372036854775807 := by simpa [Lit.wf, hmin, hmax] using hw
  exact ⟨n, rfl, this⟩
theorem u3 : Try.prog.underlying 3 = some (.int .i64) := (tysOk.get (t := 3) rfl).1
theorem u5 : Try.prog.underlying 5 = some (.int .u8) := (tysOk.get (t := 5) rfl).1
theorem u9 : Try.prog.underlying 9 = some .string := (tysOk.get (t := 9) rfl).1
theorem u22 : Try.prog.underlying 22 = some (.slice 24) := (tysOk.get (t := 22) rfl).1
theorem u27 : Try.prog.underlying 27 = some (.slice 5) := (tysOk.get (t := 27) rfl).1
theorem c3 : Try.prog.cellsOf 3 = 1 := by kernel_rfl
theorem c5 : Try.prog.cellsOf 5 = 1 := by kernel_rfl
theorem c9 : Try.prog.cellsOf 9 = 1 := by kernel_rfl
theorem c22 : Try.prog.cellsOf 22 = 1 := by kernel_rfl
theorem c24 : Try.prog.cellsOf 24 = 4 := by kernel_rfl
theorem arg_bytes (h : Arg enc Try.prog W base 27 v) : ∃ (bs : List UInt8) (A : Option Addr) (c : Nat), v = .slice A bs.length c ∧ BSl (Bf.hp W) (.slice A bs.length c) bs := by
  obtain ⟨k0, f0, x, g0⟩ := h
  obtain ⟨A, len, cap, rfl⟩ := okWide_slice u27 k0
  exact read_bytes u27 u5 c5 g0
theorem int_bounds {n : Int} (hw : (Lit.int .i64 n).wf = true) : -9223372036854775808 ≤ n ∧ n ≤ 9223372036854775807 := by
  have hmin : IntKind.i64.min = -9223372036854775808 := by decide
  have hmax : IntKind.i64.max = 9223372036854775807 := by decide
  simpa [Lit.wf, hmin, hmax] using hw
theorem len4 {l : List Value} (h : l.length = 4) : ∃ a b c d, l = [a, b, c, d] := by
  match l, h with
  | [a, b, c, d], _ => exact ⟨a, b, c, d, rfl⟩
theorem open_val {w : World} {sp : Nat → Bool} {held : Bool} : ∀ (fuel : Nat) (cs : List Value) (x : DataW H × List MemPlace), cs.length = 4 → DataW.trod enc Try.prog w 0 sp held fuel 24 cs = some x → (∀ u ∈ cs, u.oneCell' = true) ∧ ∃ z, RVal (Bf.hp w) cs z := by
  intro fuel
  induction fuel using Nat.strongRecOn with
  | _ fuel ih =>
    intro cs x hl h
    obtain ⟨a, b, c, d, rfl⟩ := len4 hl
    obtain ⟨_, g, hgf, hg⟩ := read_struct' Try.underlying24 h
    obtain ⟨z0, k0⟩ : ∃ y, DataW.trod enc Try.prog w 0 sp held g 3 (([a, b, c, d].drop 0).take (Try.prog.cellsOf 3)) = some y := hg 0 _ rfl
    obtain ⟨z1, k1⟩ : ∃ y, DataW.trod enc Try.prog w 0 sp held g 3 (([a, b, c, d].drop 1).take (Try.prog.cellsOf 3)) = some y := hg 1 _ rfl
    obtain ⟨z2, k2⟩ : ∃ y, DataW.trod enc Try.prog w 0 sp held g 9 (([a, b, c, d].drop 2).take (Try.prog.cellsOf 9)) = some y := hg 2 _ rfl
    obtain ⟨z3, k3⟩ : ∃ y, DataW.trod enc Try.prog w 0 sp held g 22 (([a, b, c, d].drop 3).take (Try.prog.cellsOf 22)) = some y := hg 3 _ rfl
    rw [c3] at k0 k1
    rw [c9] at k2
    rw [c22] at k3
    obtain ⟨n0, e0, w0⟩ := read_int u3 k0
    obtain ⟨n1, e1, w1⟩ := read_int u3 k1
    obtain ⟨s, e2, w2⟩ := read_string u9 k2
    cases e0
    cases e1
    cases e2
    obtain ⟨l, A, cc, e3, hs⟩ := read_slOf' (R := fun M c x => RVal M c x) u22 c24 (by omega) (fun f cs y hf hl hy => ih f (by omega) cs y hl hy) k3
    subst e3
    refine ⟨by intro u hu; simp at hu; rcases hu with rfl | rfl | rfl | rfl <;> rfl, ⟨.mk n0 n1 s.data.toList l, ?_⟩⟩
    have : RVal (Bf.hp w) [.int .i64 n0, .int .i64 n1, .string ⟨s.data.toList.toArray⟩, .slice A l.length cc] (.mk n0 n1 s.data.toList l) :=
      RVal.close (int_bounds w0) (int_bounds w1) (by have : s.size = s.data.toList.length := rfl; have e : maxLen = 9223372036854775807 := rfl; omega) hs
    simpa using this
theorem arg_val (h : Arg enc Try.prog W base 24 v) : ∃ x, RV (Bf.hp W) v x := by
  obtain ⟨k0, f0, x, g0⟩ := h
  obtain ⟨cs, rfl, hc⟩ := okWide_struct Try.underlying24 k0
  have g1 : DataW.trod enc Try.prog W 0 (fun _ => true) true f0 24 cs.toList = some x := by simpa [Value.cells] using g0
  obtain ⟨-, z, hz⟩ := open_val f0 _ _ (by rw [c24] at hc; simpa using hc) g1
  exact ⟨z, cs.toList, by simp, hz⟩
theorem arg_vals (h : Arg enc Try.prog W base 22 v) : ∃ (l : List Val) (A : Option Addr) (c : Nat), v = .slice A l.length c ∧ RVals (Bf.hp W) (.slice A l.length c) l := by
  obtain ⟨k0, f0, x, g0⟩ := h
  obtain ⟨A, len, cap, rfl⟩ := okWide_slice u22 k0
  exact read_slOf (R := fun M c x => RVal M c x) u22 c24 (by omega) (fun f cs y hl hy => open_val f cs y hl hy) (by simpa [Value.cells] using g0)
end
theorem len1 {l : List Value} (h : l.length = 1) : ∃ a, l = [a] := by
  match l, h with
  | [a], _ => exact ⟨a, rfl⟩
theorem len2 {l : List Value} (h : l.length = 2) : ∃ a b, l = [a, b] := by
  match l, h with
  | [a, b], _ => exact ⟨a, b, rfl⟩
theorem ownT' : ownKnob Try.checked.prog.godebug = none := by kernel_rfl
theorem laidT' : laidOutB Try.checked.prog = true := by kernel_rfl
end Go.Proofs.Ytgcjpicnibeemaa
