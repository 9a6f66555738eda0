/-
  The digest: how the arguments of the laws read, and the table of constants.
  Conditions: none.
-/
import Derived.Test.YtoaepelmhmddmaaDoorG3
import Derived.Test.YtoaepelmhmddmaaDoorBfLaid
import Derived.Test.YtoaepelmhmddmaaDoorRows
import Derived.ProofKit
namespace Go.Proofs.YtoaepelmhmddmaaDoor
open Go Bf
open Go.ChangeShapes Go.WideShapes Go.ChangeAt Go.RowKit
section
variable {H : Type} {enc : TypeId × Value → H} {W : World} {base : Nat} {v : Value}
theorem int_bounds {n : Int} (hw : (Lit.int .i64 n).wf = true) : -9223372036854775808 ≤ n ∧ n ≤ 9223372036854775807 := by
  have hmin : IntKind.i64.min = -9223372036854775808 := by decide
  have hmax : IntKind.i64.max = 9223372036854775807 := by decide
  simpa [Lit.wf, hmin, hmax] using hw
theorem u3 : Tryd.prog.underlying 3 = some (.int .i64) := (tysOk.get (t := 3) rfl).1
theorem u5 : Tryd.prog.underlying 5 = some (.int .u8) := (tysOk.get (t := 5) rfl).1
theorem u9 : Tryd.prog.underlying 9 = some .string := (tysOk.get (t := 9) rfl).1
theorem u22 : Tryd.prog.underlying 22 = some (.slice 5) := (tysOk.get (t := 22) rfl).1
theorem u26 : Tryd.prog.underlying 26 = some (.array 32 5) := (tysOk.get (t := 26) rfl).1
theorem u50 : Tryd.prog.underlying 50 = some (.int .u32) := (tysOk.get (t := 50) rfl).1
theorem u61 : Tryd.prog.underlying 61 = some (.array 64 50) := (tysOk.get (t := 61) rfl).1
theorem c5 : Tryd.prog.cellsOf 5 = 1 := by kernel_rfl
theorem c26 : Tryd.prog.cellsOf 26 = 32 := by kernel_rfl
theorem c50 : Tryd.prog.cellsOf 50 = 1 := by kernel_rfl
theorem arg_int (h : Arg enc Tryd.prog W base 3 v) : ∃ a : Int, v = .int .i64 a ∧ -9223372036854775808 ≤ a ∧ a ≤ 9223372036854775807 := by
  obtain ⟨k0, f0, x, g0⟩ := h
  obtain ⟨n, rfl⟩ := okWide_int u3 k0
  obtain ⟨m, e, hw⟩ := read_int u3 g0
  simp [Value.cells] at e
  subst e
  exact ⟨n, rfl, int_bounds hw⟩
theorem read_u8 {fuel : Nat} {c : Value} {y : DataW H × List MemPlace} {sp : Nat → Bool} {held : Bool} (g0 : DataW.trod enc Tryd.prog W 0 sp held fuel 5 [c] = some y) : ∃ a : UInt8, c = .int .u8 (a.toNat : Int) := by
  obtain ⟨m, e, hw⟩ := read_int u5 g0
  cases e
  have hmin : IntKind.u8.min = 0 := by decide
  have hmax : IntKind.u8.max = 255 := by decide
  have : 0 ≤ m ∧ m ≤ 255 := by simpa [Lit.wf, hmin, hmax] using hw
  refine ⟨UInt8.ofNat m.toNat, ?_⟩
  have e : ((UInt8.ofNat m.toNat).toNat : Int) = m := by
    simp [UInt8.toNat_ofNat']
    omega
  rw [e]
theorem arg_u8 (h : Arg enc Tryd.prog W base 5 v) : ∃ a : UInt8, v = .int .u8 (a.toNat : Int) := by
  obtain ⟨k0, f0, x, g0⟩ := h
  obtain ⟨n, rfl⟩ := okWide_int u5 k0
  exact read_u8 (by simpa [Value.cells] using g0)
theorem arg_bytes (h : Arg enc Tryd.prog W base 22 v) : ∃ (bs : List UInt8) (A : Option Addr) (c : Nat), v = .slice A bs.length c ∧ BSl (Bf.hp W) (.slice A bs.length c) bs := by
  obtain ⟨k0, f0, x, g0⟩ := h
  obtain ⟨A, len, cap, rfl⟩ := okWide_slice u22 k0
  exact read_bytes u22 u5 c5 g0
theorem arg_str (h : Arg enc Tryd.prog W base 9 v) : ∃ t : List UInt8, v = .string ⟨t.toArray⟩ := by
  obtain ⟨k0, f0, x, g0⟩ := h
  obtain ⟨s, rfl⟩ := okWide_string u9 k0
  exact ⟨s.data.toList, by simp⟩
theorem arg_dig (h : Arg enc Tryd.prog W base 26 v) : ∃ d : List UInt8, v = .agg (byteV d).toArray ∧ d.length = 32 := by
  obtain ⟨k0, f0, x, g0⟩ := h
  unfold Value.okWide at k0
  rw [u26] at k0
  obtain ⟨cs, rfl, -⟩ := k0
  obtain ⟨xs, m, rfl, hx, hlen, hxs, hel⟩ := DataW.trod_array u26 g0
  rw [c26] at hlen
  have hlen : cs.toList.length = 32 := by simpa [Value.cells] using hlen
  have : ∃ l : List UInt8, l.length = 32 ∧ ∀ (i : Nat) x, l[i]? = some x → cs.toList[i]? = some (.int .u8 (x.toNat : Int)) := by
    refine pick_list fun i hi => ?_
    have h0 := hel i hi
    rw [c5, Nat.mul_one] at h0
    have hc : ∃ c, cs.toList[i]? = some c := ⟨cs.toList[i], by simp [hlen, hi]⟩
    obtain ⟨c, hc⟩ := hc
    have e : (((Value.agg cs).cells.toList).drop i).take 1 = [c] := by
      rw [List.take_one, List.head?_drop]
      simp [Value.cells] at hc ⊢
      rw [hc]
    rw [e, List.getElem?_eq_getElem (by omega)] at h0
    obtain ⟨a, rfl⟩ := read_u8 h0
    exact ⟨a, hc⟩
  obtain ⟨d, hd, hall⟩ := this
  refine ⟨d, ?_, hd⟩
  have : cs.toList = byteV d := by
    apply List.ext_getElem?
    intro i
    by_cases hi : i < 32
    · have := hall i (d[i]'(by omega)) (by simp [hd, hi])
      rw [this]
      simp [byteV, hd, hi]
    · rw [List.getElem?_eq_none (by omega), List.getElem?_eq_none (by simp; omega)]
  rw [← this]
end
theorem len1 {l : List Value} (h : l.length = 1) : ∃ a, l = [a] := by
  match l, h with
  | [a], _ => exact ⟨a, rfl⟩
theorem len2 {l : List Value} (h : l.length = 2) : ∃ a b, l = [a, b] := by
  match l, h with
  | [a, b], _ => exact ⟨a, b, rfl⟩
theorem len3 {l : List Value} (h : l.length = 3) : ∃ a b c, l = [a, b, c] := by
  match l, h with
  | [a, b, c], _ => exact ⟨a, b, c, rfl⟩
theorem len4 {l : List Value} (h : l.length = 4) : ∃ a b c d, l = [a, b, c, d] := by
  match l, h with
  | [a, b, c, d], _ => exact ⟨a, b, c, d, rfl⟩
theorem ownT' : ownKnob Tryd.checked.prog.godebug = none := by kernel_rfl
theorem laidT' : laidOutB Tryd.checked.prog = true := by kernel_rfl
theorem gK : Tryd.prog.globalNamed "backflush/digest.constants" = some 0 := by kernel_rfl
/-- the constants as whole numbers -/
def kI : List Int := Kw.map fun x => (x.toNat : Int)
theorem kI_at {M : Mem} (h : At M ⟨0, 0, none⟩ (kI.map fun x => .int .u32 x)) : At M ⟨0, 0, none⟩ (wV Kw) := by
  have e : (kI.map fun x => Value.int .u32 x) = wV Kw := by simp [kI, wV]
  rwa [e] at h
theorem kI_laid : (DataW.agg (kI.map fun x => .lit (.int .u32 x)) : DataW Unit) = Rows.laid_backflush_digest_constants := by kernel_rfl
theorem door_met (os : Os) (args : Array Value) : laidMetH Tryd.prog [("backflush/digest.constants", .agg (kI.map fun x => .lit (.int .u32 x)))] ((World.doorLaid Tryd.prog 400 os).forCall (fun _ _ => 0) ⟨#[], args, []⟩).memory :=
  laidMetH_of_parts3 (fuel := 8) (laidMet_of_run' 8 (by kernel_rfl) (by kernel_rfl)) (by kernel_rfl) (by kernel_rfl)
end Go.Proofs.YtoaepelmhmddmaaDoor
