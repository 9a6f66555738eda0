/-
  Matching: how the arguments of the laws read.
  Conditions: none.
-/
import Derived.Test.YtmioocddmlfboaaM2
import Derived.Test.YtmioocddmlfboaaBfRow
import Derived.Test.YtmioocddmlfboaaRows
import Derived.ProofKit
namespace Go.Proofs.Ytmioocddmlfboaa
open Go Bf
open Go.ChangeShapes Go.WideShapes Go.ChangeAt Go.RowKit
theorem SlOf.imp {α : Type} {sz : Nat} {R R' : Mem → List Value → α → Prop} {M : Mem} {v : Value} {xs : List α} (h : SlOf sz R M v xs) (hR : ∀ c x, x ∈ xs → R M c x → R' M c x) : SlOf sz R' M v xs := by
  obtain ⟨A, c, cells, h1, h2, h3, h4, h5, h6⟩ := h
  exact ⟨A, c, cells, h1, h2, h3, h4, h5, fun i x hx => hR _ x (List.mem_of_getElem? hx) (h6 i x hx)⟩
section
variable {H : Type} {enc : TypeId × Value → H} {W : World} {base : Nat} {v : Value}
theorem u3 : Try.prog.underlying 3 = some (.int .i64) := (tysOk.get (t := 3) rfl).1
theorem u4 : Try.prog.underlying 4 = some .bool := (tysOk.get (t := 4) rfl).1
theorem u22 : Try.prog.underlying 22 = some (.slice 43) := (tysOk.get (t := 22) rfl).1
theorem u23 : Try.prog.underlying 23 = some (.slice 3) := (tysOk.get (t := 23) rfl).1
theorem u24 : Try.prog.underlying 24 = some (.slice 23) := (tysOk.get (t := 24) rfl).1
theorem u43 : Try.prog.underlying 43 = some (.slice 4) := (tysOk.get (t := 43) rfl).1
theorem c3 : Try.prog.cellsOf 3 = 1 := by kernel_rfl
theorem c4 : Try.prog.cellsOf 4 = 1 := by kernel_rfl
theorem c23 : Try.prog.cellsOf 23 = 1 := by kernel_rfl
theorem c43 : Try.prog.cellsOf 43 = 1 := by kernel_rfl
theorem int_bounds {n : Int} (hw : (Lit.int .i64 n).wf = true) : -9223372036854775808 ≤ n ∧ n ≤ 9223372036854775807 := by
  have hmin : IntKind.i64.min = -9223372036854775808 := by decide
  have hmax : IntKind.i64.max = 9223372036854775807 := by decide
  simpa [Lit.wf, hmin, hmax] using hw
theorem arg_int (h : Arg enc Try.prog W base 3 v) : ∃ a : Int, v = .int .i64 a ∧ -9223372036854775808 ≤ a ∧ a ≤ 9223372036854775807 := by
  obtain ⟨k0, f0, x, g0⟩ := h
  obtain ⟨n, rfl⟩ := okWide_int u3 k0
  obtain ⟨m, e, hw⟩ := read_int u3 g0
  simp [Value.cells] at e
  subst e
  exact ⟨n, rfl, int_bounds hw⟩
theorem u45 : Try.prog.underlying 45 = some (.int .u16) := (tysOk.get (t := 45) rfl).1
theorem arg_u16 (h : Arg enc Try.prog W base 45 v) : ∃ a : Nat, v = .int .u16 (a : Int) ∧ a < 65536 := by
  obtain ⟨k0, f0, x, g0⟩ := h
  obtain ⟨n, rfl⟩ := okWide_int u45 k0
  obtain ⟨m, e, hw⟩ := read_int u45 g0
  simp [Value.cells] at e
  subst e
  have hmin : IntKind.u16.min = 0 := by decide
  have hmax : IntKind.u16.max = 65535 := by decide
  have hb : 0 ≤ n ∧ n ≤ 65535 := by simpa [Lit.wf, hmin, hmax] using hw
  exact ⟨n.toNat, by rw [Int.toNat_of_nonneg hb.1], by omega⟩
/-- a number that its kind holds -/
def RIb (_ : Mem) (c : List Value) (x : Int) : Prop := c = [.int .i64 x] ∧ -9223372036854775808 ≤ x ∧ x ≤ 9223372036854775807
theorem RIb.ints {M : Mem} {A : Option Addr} {n c : Nat} {l : List Int} (h : SlOf 1 RIb M (.slice A n c) l) : Ints M (.slice A n c) l ∧ I64s l := by
  refine ⟨SlOf.imp h fun c x _ hx => hx.1, fun x hx => ?_⟩
  obtain ⟨i, hi⟩ := List.mem_iff_getElem?.1 hx
  exact (h.elem hi).2.choose_spec.2.2
theorem arg_ints (h : Arg enc Try.prog W base 23 v) : ∃ (l : List Int) (A : Option Addr) (c : Nat), v = .slice A l.length c ∧ Ints (Bf.hp W) (.slice A l.length c) l ∧ I64s l := by
  obtain ⟨k0, f0, x, g0⟩ := h
  obtain ⟨A, len, cap, rfl⟩ := okWide_slice u23 k0
  obtain ⟨l, A', c', e, hs⟩ := read_slOf (R := RIb) u23 c3 (by omega) (fun f cs y hl hy => by
    obtain ⟨n, rfl, hw⟩ := read_int u3 hy
    exact ⟨by intro u hu; simp at hu; subst hu; rfl, n, rfl, int_bounds hw⟩) (by simpa [Value.cells] using g0)
  exact ⟨l, A', c', e, (RIb.ints hs).1, (RIb.ints hs).2⟩
theorem arg_bools (h : Arg enc Try.prog W base 43 v) : ∃ (l : List Bool) (A : Option Addr) (c : Nat), v = .slice A l.length c ∧ Bools (Bf.hp W) (.slice A l.length c) l := by
  obtain ⟨k0, f0, x, g0⟩ := h
  obtain ⟨A, len, cap, rfl⟩ := okWide_slice u43 k0
  exact read_slOf (R := RBo) u43 c4 (by omega) (fun f cs y hl hy => by
    obtain ⟨b, rfl⟩ := read_bool u4 hy
    exact ⟨by intro u hu; simp at hu; subst hu; rfl, b, rfl⟩) (by simpa [Value.cells] using g0)
theorem arg_rows (h : Arg enc Try.prog W base 22 v) : ∃ (l : List (List Bool)) (A : Option Addr) (c : Nat), v = .slice A l.length c ∧ Fits2 (Bf.hp W) (.slice A l.length c) l := by
  obtain ⟨k0, f0, x, g0⟩ := h
  obtain ⟨A, len, cap, rfl⟩ := okWide_slice u22 k0
  exact read_slOf (R := RRowB) u22 c43 (by omega) (fun f cs y hl hy => by
    obtain ⟨a, rfl⟩ := List.length_eq_one_iff.1 hl
    obtain ⟨l, A, c, rfl, hs⟩ := read_slOf (R := RBo) u43 c4 (by omega) (fun f cs y hl hy => by
      obtain ⟨b, rfl⟩ := read_bool u4 hy
      exact ⟨by intro u hu; simp at hu; subst hu; rfl, b, rfl⟩) hy
    exact ⟨by intro u hu; simp at hu; subst hu; rfl, l, A, c, rfl, hs⟩) (by simpa [Value.cells] using g0)
theorem arg_rowsI (h : Arg enc Try.prog W base 24 v) : ∃ (l : List (List Int)) (A : Option Addr) (c : Nat), v = .slice A l.length c ∧ Ints2 (Bf.hp W) (.slice A l.length c) l := by
  obtain ⟨k0, f0, x, g0⟩ := h
  obtain ⟨A, len, cap, rfl⟩ := okWide_slice u24 k0
  exact read_slOf (R := RRowI) u24 c23 (by omega) (fun f cs y hl hy => by
    obtain ⟨a, rfl⟩ := List.length_eq_one_iff.1 hl
    obtain ⟨l, A, c, rfl, hs⟩ := read_slOf (R := RI) u23 c3 (by omega) (fun f cs y hl hy => by
      obtain ⟨n, rfl, hw⟩ := read_int u3 hy
      exact ⟨by intro u hu; simp at hu; subst hu; rfl, n, rfl⟩) hy
    exact ⟨by intro u hu; simp at hu; subst hu; rfl, l, A, c, rfl, hs⟩) (by simpa [Value.cells] using g0)
end
theorem len3 {l : List Value} (h : l.length = 3) : ∃ a b c, l = [a, b, c] := by
  match l, h with
  | [a, b, c], _ => exact ⟨a, b, c, rfl⟩
theorem len4 {l : List Value} (h : l.length = 4) : ∃ a b c d, l = [a, b, c, d] := by
  match l, h with
  | [a, b, c, d], _ => exact ⟨a, b, c, d, rfl⟩
theorem len5 {l : List Value} (h : l.length = 5) : ∃ a b c d e, l = [a, b, c, d, e] := by
  match l, h with
  | [a, b, c, d, e], _ => exact ⟨a, b, c, d, e, rfl⟩
theorem len7 {l : List Value} (h : l.length = 7) : ∃ a b c d e f g, l = [a, b, c, d, e, f, g] := by
  match l, h with
  | [a, b, c, d, e, f, g], _ => exact ⟨a, b, c, d, e, f, g, rfl⟩
theorem ownT' : ownKnob Try.checked.prog.godebug = none := by kernel_rfl
theorem laidT' : laidOutB Try.checked.prog = true := by kernel_rfl
end Go.Proofs.Ytmioocddmlfboaa
