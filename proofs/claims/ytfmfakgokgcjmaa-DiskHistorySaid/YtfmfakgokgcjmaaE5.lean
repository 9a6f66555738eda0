/-
  The disk: how the arguments of the laws read; the rows of DiskNewSpec, DiskWriteSpec and DiskSyncSpec.
  Conditions: none.
-/
import Derived.Test.YtfmfakgokgcjmaaD13
import Derived.Test.YtfmfakgokgcjmaaE4
import Derived.Test.YtfmfakgokgcjmaaBfRow
namespace Go.Proofs.Ytfmfakgokgcjmaa
open Go Bf
open Go.ChangeShapes Go.WideShapes Go.ChangeAt Go.RowKit
section
variable {H : Type} {enc : TypeId × Value → H} {W : World} {base : Nat} {v : Value}
theorem arg_disk (h : Arg enc Try.prog W base 25 v) : ∃ d, RDisk (Bf.hp W) v d := by
  obtain ⟨k0, f0, x, g0⟩ := h
  unfold Value.okWide at k0
  rw [Try.underlying25] at k0
  obtain ⟨cs, rfl, -, -⟩ := k0
  obtain ⟨dk, hdk⟩ := open_disk g0
  exact ⟨dk, by simpa [Value.cells] using hdk⟩
theorem arg_int (h : Arg enc Try.prog W base 3 v) : ∃ a : Int, v = .int .i64 a ∧ -9223372036854775808 ≤ a ∧ a ≤ 9223372036854775807 := by
  obtain ⟨k0, f0, x, g0⟩ := h
  obtain ⟨n, rfl⟩ := okWide_int Try.underlying3 k0
  obtain ⟨m, e, hw⟩ := read_int Try.underlying3 g0
  simp [Value.cells] at e
  subst e
  have hmin : IntKind.i64.min = -9223372036854775808 := by decide
  have hmax : IntKind.i64.max = 9223372036854775807 := by decide
  have : -9223372036854775808 ≤ n ∧ n ≤ 9223372036854775807 := by simpa [Lit.wf, hmin, hmax] using hw
  exact ⟨n, rfl, this⟩
theorem arg_u8 (h : Arg enc Try.prog W base 5 v) : ∃ a : UInt8, v = .int .u8 (a.toNat : Int) := by
  obtain ⟨k0, f0, x, g0⟩ := h
  obtain ⟨n, rfl⟩ := okWide_int u5 k0
  obtain ⟨m, e, hw⟩ := read_int u5 g0
  simp [Value.cells] at e
  subst e
  have hmin : IntKind.u8.min = 0 := by decide
  have hmax : IntKind.u8.max = 255 := by decide
  have : 0 ≤ n ∧ n ≤ 255 := by simpa [Lit.wf, hmin, hmax] using hw
  refine ⟨UInt8.ofNat n.toNat, ?_⟩
  have e : ((UInt8.ofNat n.toNat).toNat : Int) = n := by
    simp [UInt8.toNat_ofNat']
    omega
  rw [e]
theorem arg_bytes (h : Arg enc Try.prog W base 35 v) : ∃ (bs : List UInt8) (A : Option Addr) (c : Nat), v = .slice A bs.length c ∧ BSl (Bf.hp W) (.slice A bs.length c) bs := by
  obtain ⟨k0, f0, x, g0⟩ := h
  obtain ⟨A, len, cap, rfl⟩ := okWide_slice Try.underlying35 k0
  exact read_bytes u35 u5 c5 g0
end
theorem len3 {l : List Value} (h : l.length = 3) : ∃ a b c, l = [a, b, c] := by
  match l, h with
  | [a, b, c], _ => exact ⟨a, b, c, rfl⟩
theorem len5 {l : List Value} (h : l.length = 5) : ∃ a b c d e, l = [a, b, c, d, e] := by
  match l, h with
  | [a, b, c, d, e], _ => exact ⟨a, b, c, d, e, rfl⟩
theorem ownT' : ownKnob Try.checked.prog.godebug = none := by kernel_rfl
theorem laidT' : laidOutB Try.checked.prog = true := by kernel_rfl

set_option maxRecDepth 100000 in
theorem newspec_lifted (os : Os) (started : os.Started) (H : Type) (enc : TypeId × Value → H) :
    ReturnsInHanded {} Try.checked os 3 .any (Rows.diskNewSpecSpec.pre6 enc Try.prog Try.f3 Rows.diskNewSpecRow.domain false) (Rows.diskNewSpecSpec.post enc Try.prog Try.f3 false true false false) :=
  lift_true (C := Try.checked) (ts := [3, 25]) (tb := 4) started ownT' (by kernel_rfl) Try.func3
    (ChangeSpec.witness6 (enc := enc) (C := Try.checked) false ⟨#[], #[.int .i64 0, .agg #[.slice none 0 0, .slice none 0 0, .int .i64 0, .bool false]], []⟩ 8 (by kernel_rfl) (by kernel_rfl) (by kernel_rfl) (by kernel_rfl))
    (by rw [Try.params3]) laidT' (by kernel_rfl) rfl (fun ds h => match ds, h with | [_, _], _ => rfl) rfl Try.underlying4
    (fun W base vs hl ha => by
      obtain ⟨v0, v1, rfl⟩ := len2 hl
      obtain ⟨n, rfl, -⟩ := arg_int (ha 0 3 v0 rfl rfl)
      obtain ⟨d, hd⟩ := arg_disk (ha 1 25 v1 rfl rfl)
      exact newspec_fn _ _ d n hd)
theorem diskNewSpec_holds : Rows.DiskNewSpecSaid :=
  OpenClaim.holds_of_wide 3 Try.f3 rfl rfl rfl rfl rfl rfl rfl ⟨rfl, rfl, rfl, rfl, rfl⟩ rfl rfl rfl rfl rfl (by kernel_rfl) Try.func3 (by kernel_rfl)
    (of_decide_eq_true (by kernel_rfl)) (by unfold Func.isWrapper; first | (rw [if_pos (by decide +kernel)]; kernel_rfl) | (rw [if_neg (by decide +kernel)]; exact ⟨rfl, rfl⟩))
    (fun os started H enc _ => newspec_lifted os started H enc)
end Go.Proofs.Ytfmfakgokgcjmaa
