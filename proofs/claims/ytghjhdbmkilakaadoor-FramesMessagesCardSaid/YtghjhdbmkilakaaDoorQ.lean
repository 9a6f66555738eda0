/-
  Frames: the tied card of FramesMessages.
  Conditions: none.
-/
import Derived.Test.YtghjhdbmkilakaaDoorQBfLaid
import Derived.Test.YtghjhdbmkilakaaDoorRows
import Derived.ProofKit
import Derived.Test.YtghjhdbmkilakaaDoorTie
import Derived.Test.YtghjhdbmkilakaaDoorCards
import Derived.SevenTiedAt
import Derived.Test.YtghjhdbmkilakaaDoorQXs
import Derived.Test.YtghjhdbmkilakaaDoorQc
/-
  Frames: the law FramesSpec.
  Conditions: none.
-/
namespace Go.Proofs.YtghjhdbmkilakaaDoor
open Go Bf
attribute [local irreducible] Tr Exec Stab HasTy Go.Addr.add IntKind.wrap
attribute [local irreducible] encFr readF scanF TF
theorem RFrms.up {M M' : Mem} {v : Value} {l : List Frm} (h : RFrms M v l) (hm : Mem.le M M') : RFrms M' v l := (show SlOf 2 RFrm M v l from h).mono RFrm.mono hm
set_option maxHeartbeats 4000000 in
theorem law3_fn (M : Mem) (hK : Tab M) (f : Frm) (A B : Option Addr) (c k : Nat) (bs : List UInt8) (hf : BSl M (.slice A f.body.length c) f.body) (hb : BSl M (.slice B bs.length k) bs) :
    Fn0 Tryd.prog 3 [.agg #[.int .i64 f.kind, .slice A f.body.length c], .slice B bs.length k] M (fun r _ => r = .bool true) := by
  have hfl := hf.len_le
  have hbl := hb.len_le
  refine Fn.intro Tryd.func3 rfl rfl Tryd.ntmps3 rfl fun E F => ?_
  (repeat (first | ((with_reducible refine Tr.step rfl ?_); (first | (refine xaQ (z := ?_)) | ((with_reducible refine Knd.box ?_); (refine Exec.box rfl rfl (fun b => ?_))))) | (with_reducible first | apply Tr.next | apply Tr.seq | apply Tr.region | apply Tr.nil)))
  ((refine Tr.step rfl ?_)); refine Exec.call0 rfl (sane_fn M hK) rfl ?_
  rintro _ M1 hm1 rfl
  replace hb := hb.mono hm1
  replace hf := hf.mono hm1
  replace hK := hK.mono hm1
  by_cases h1 : bs.length ≤ 3000
  case neg =>
    (repeat (first | ((with_reducible refine Tr.step rfl ?_); (first | (refine xmQ (z := ?_)) | (refine xaQ (z := ?_)) | (refine xnQ (z := ?_)) | (refine xiQ (z := ?_)) | ((with_reducible refine Knd.pick ?_); (refine Exec.stab rfl (Stab.pick_td rfl (by first | (with_reducible assumption) | (with_reducible rfl) | (with_reducible exact (not_not_intro rfl)) | omega) rfl) rfl ?_)) | ((with_reducible refine Knd.unOp ?_); (refine Exec.stab rfl (Stab.not rfl) rfl ?_)))) | (with_reducible first | apply Tr.next | apply Tr.seq | apply Tr.region | apply Tr.nil) | (refine Tr.guard_n' rfl rfl rfl (by first | (with_reducible assumption) | (with_reducible rfl) | (with_reducible exact (not_not_intro rfl)) | omega) rfl rfl ?_) | (with_reducible first | apply Tr.skip | apply Tr.ret | apply Tr.then_ret) | (refine Tr.cond_bt rfl (by first | (with_reducible rfl) | (with_reducible assumption) | (with_reducible exact Bool.not_true) | (with_reducible exact Bool.not_false)) ?_) | (refine Tr.cond_bf rfl (by first | (with_reducible rfl) | (with_reducible assumption) | (with_reducible exact Bool.not_true) | (with_reducible exact Bool.not_false)) ?_)))
    (refine dnQ (hL := by exact ⟨[_], rfl⟩) (k := ⟨rfl, ?_⟩))
    rfl
  by_cases h2 : f.body.length ≤ 70000
  case neg =>
    (repeat (first | ((with_reducible refine Tr.step rfl ?_); (first | (refine xmQ (z := ?_)) | (refine xaQ (z := ?_)) | (refine xnQ (z := ?_)) | (refine xiQ (z := ?_)) | ((with_reducible refine Knd.pick ?_); (refine Exec.stab rfl (Stab.pick_fd rfl (by first | (with_reducible assumption) | (with_reducible rfl) | (with_reducible exact (not_not_intro rfl)) | omega) rfl) rfl ?_)) | ((with_reducible refine Knd.unOp ?_); (refine Exec.stab rfl (Stab.not rfl) rfl ?_)))) | (with_reducible first | apply Tr.next | apply Tr.seq | apply Tr.region | apply Tr.nil) | ((refine Tr.guard_y' rfl rfl rfl (by first | (with_reducible assumption) | (with_reducible rfl) | (with_reducible exact (not_not_intro rfl)) | omega) ?_); (first | (refine xlQ (z := ?_)) | (refine xfQ (z := ?_)) | (refine xnQ (z := ?_)) | (refine xiQ (z := ?_)))) | (with_reducible first | apply Tr.skip | apply Tr.ret | apply Tr.then_ret) | (refine Tr.cond_bf rfl (by first | (with_reducible rfl) | (with_reducible assumption) | (with_reducible exact Bool.not_true) | (with_reducible exact Bool.not_false)) ?_) | (refine Tr.cond_t rfl (by first | (with_reducible assumption) | (with_reducible rfl) | (with_reducible exact (not_not_intro rfl)) | omega) ?_)))
    (refine dnQ (hL := by exact ⟨[_], rfl⟩) (k := ⟨rfl, ?_⟩))
    rfl
  (repeat (first | ((with_reducible refine Tr.step rfl ?_); (first | (refine xmQ (z := ?_)) | (refine xwQ (z := ?_)) | (refine xnQ (z := ?_)) | (refine xiQ (z := ?_)) | ((with_reducible refine Knd.pick ?_); (refine Exec.stab rfl (Stab.pick_fd rfl (by first | (with_reducible assumption) | (with_reducible rfl) | (with_reducible exact (not_not_intro rfl)) | omega) rfl) rfl ?_)) | ((with_reducible refine Knd.unOp ?_); (refine Exec.stab rfl (Stab.not rfl) rfl ?_)))) | (with_reducible first | apply Tr.next | apply Tr.seq | apply Tr.region | apply Tr.nil) | ((refine Tr.guard_y' rfl rfl rfl (by first | (with_reducible assumption) | (with_reducible rfl) | (with_reducible exact (not_not_intro rfl)) | omega) ?_); (first | (refine xlQ (z := ?_)) | (refine xfQ (z := ?_)) | (refine xnQ (z := ?_)) | (refine xiQ (z := ?_)))) | (with_reducible refine Tr.skip ?_) | (refine Tr.cond_bf rfl (by first | (with_reducible rfl) | (with_reducible assumption) | (with_reducible exact Bool.not_true) | (with_reducible exact Bool.not_false)) ?_) | (refine Tr.cond_f rfl (by first | (with_reducible assumption) | (with_reducible rfl) | (with_reducible exact (not_not_intro rfl)) | omega) ?_)))
  ((refine Tr.step rfl ?_)); refine Exec.call0 rfl (encode_fr M1 hK A c f hf) rfl ?_
  rintro _ M2 hm2 ⟨A2, c2, rfl, hx⟩
  replace hb := hb.mono hm2
  replace hf := hf.mono hm2
  replace hK := hK.mono hm2
  (repeat (first | ((with_reducible refine Tr.step rfl ?_); (first | (refine xmQ (z := ?_)) | (refine xaQ (z := ?_)) | (refine xwQ (z := ?_)) | ((with_reducible refine Knd.extract ?_); (refine Exec.stab rfl (Stab.extract rfl rfl) rfl ?_)))) | (with_reducible first | apply Tr.next | apply Tr.seq | apply Tr.region | apply Tr.nil)))
  ((refine Tr.step rfl ?_)); refine Exec.call0 rfl (rencode_fr M2 A c f hf) rfl ?_
  rintro _ M3 hm3 ⟨A3, c3, rfl, hy⟩
  replace hb := hb.mono hm3
  replace hx := hx.mono hm3
  replace hK := hK.mono hm3
  (repeat (first | ((with_reducible refine Tr.step rfl ?_); (first | (refine xmQ (z := ?_)) | (refine xaQ (z := ?_)) | ((with_reducible refine Knd.extract ?_); (refine Exec.stab rfl (Stab.extract rfl rfl) rfl ?_)))) | (with_reducible first | apply Tr.next | apply Tr.seq | apply Tr.region | apply Tr.nil)))
  ((refine Tr.step rfl ?_)); refine Exec.call0 rfl (read_fn M3 hK B k bs hb (by omega)) rfl ?_
  rintro _ M4 hm4 ⟨A4, c4, A5, c5, rfl, hl4, hr4⟩
  replace hb := hb.mono hm4
  replace hx := hx.mono hm4
  replace hy := hy.mono hm4
  replace hK := hK.mono hm4
  (repeat (first | ((with_reducible refine Tr.step rfl ?_); (first | (refine xmQ (z := ?_)) | (refine xaQ (z := ?_)) | ((with_reducible refine Knd.extract ?_); (refine Exec.stab rfl (Stab.extract rfl rfl) rfl ?_)))) | (with_reducible first | apply Tr.next | apply Tr.seq | apply Tr.region | apply Tr.nil)))
  ((refine Tr.step rfl ?_)); refine Exec.call0 rfl (rread_fn M4 B k bs hb (by omega)) rfl ?_
  rintro _ M5 hm5 ⟨A6, c6, A7, c7, rfl, hl6, hr6⟩
  replace hb := hb.mono hm5
  replace hx := hx.mono hm5
  replace hy := hy.mono hm5
  replace hK := hK.mono hm5
  replace hl4 := RFrms.up hl4 hm5
  replace hr4 := hr4.mono hm5
  (repeat (first | ((with_reducible refine Tr.step rfl ?_); (first | (refine xmQ (z := ?_)) | (refine xaQ (z := ?_)) | ((with_reducible refine Knd.extract ?_); (refine Exec.stab rfl (Stab.extract rfl rfl) rfl ?_)))) | (with_reducible first | apply Tr.next | apply Tr.seq | apply Tr.region | apply Tr.nil)))
  ((refine Tr.step rfl ?_)); refine Exec.call0 rfl (scan_fn M5 hK B k bs hb (by omega)) rfl ?_
  rintro _ M6 hm6 ⟨A8, c8, rfl, hl8⟩
  replace hb := hb.mono hm6
  replace hx := hx.mono hm6
  replace hy := hy.mono hm6
  replace hl4 := RFrms.up hl4 hm6
  replace hr4 := hr4.mono hm6
  replace hl6 := RFrms.up hl6 hm6
  replace hr6 := hr6.mono hm6
  (repeat (first | ((with_reducible refine Tr.step rfl ?_); (first | (refine xmQ (z := ?_)) | (refine xaQ (z := ?_)) | ((with_reducible refine Knd.extract ?_); (refine Exec.stab rfl (Stab.extract rfl rfl) rfl ?_)))) | (with_reducible first | apply Tr.next | apply Tr.seq | apply Tr.region | apply Tr.nil)))
  ((refine Tr.step rfl ?_)); refine Exec.call0 rfl (rscan_fn M6 B k bs hb (by omega)) rfl ?_
  rintro _ M7 hm7 ⟨A9, c9, rfl, hl9⟩
  replace hx := hx.mono hm7
  replace hy := hy.mono hm7
  replace hl4 := RFrms.up hl4 hm7
  replace hr4 := hr4.mono hm7
  replace hl6 := RFrms.up hl6 hm7
  replace hr6 := hr6.mono hm7
  replace hl8 := RFrms.up hl8 hm7
  (repeat (first | ((with_reducible refine Tr.step rfl ?_); (first | (refine xmQ (z := ?_)) | (refine xaQ (z := ?_)) | ((with_reducible refine Knd.binOp ?_); (refine Exec.stab rfl (Stab.streq rfl rfl) rfl ?_)) | ((with_reducible refine Knd.pick ?_); (refine Exec.stab rfl (Stab.pick_td rfl (by first | (with_reducible assumption) | (with_reducible rfl) | (with_reducible exact (not_not_intro rfl)) | omega) rfl) rfl ?_)) | ((with_reducible refine Knd.extract ?_); (refine Exec.stab rfl (Stab.extract rfl rfl) rfl ?_)) | ((with_reducible refine Knd.convert ?_); (refine Exec.stab rfl (Stab.bstrB rfl (tysOk.get rfl) (tysOk.get rfl) rfl rfl (tysOk.get rfl) rfl (by assumption)) rfl ?_)))) | (with_reducible first | apply Tr.next | apply Tr.seq | apply Tr.region | apply Tr.nil) | ((refine Tr.guard_y rfl rfl rfl (by first | (with_reducible assumption) | (with_reducible rfl) | (with_reducible exact (not_not_intro rfl)) | omega) ?_); (first | (refine xmQ (z := ?_)) | (refine xiQ (z := ?_))))))
  ((refine Tr.guard_y rfl rfl rfl (by first | (with_reducible assumption) | (with_reducible rfl) | (with_reducible exact (not_not_intro rfl)) | omega) ?_)); refine Exec.call0 rfl (rsameFrames_fn M7 _ _ _ _ _ _ hl4 hl6) rfl ?_
  rintro _ _ _ ⟨rfl, rfl⟩
  rw [decide_eq_true rfl]
  (repeat (first | ((with_reducible refine Tr.step rfl ?_); (first | (refine xmQ (z := ?_)) | ((with_reducible refine Knd.pick ?_); (first | (refine Exec.stab rfl (Stab.pick_t rfl (by first | (with_reducible rfl) | (with_reducible assumption) | (with_reducible exact Bool.not_true) | (with_reducible exact Bool.not_false)) rfl) rfl ?_) | (refine Exec.stab rfl (Stab.pick_td rfl (by first | (with_reducible assumption) | (with_reducible rfl) | (with_reducible exact (not_not_intro rfl)) | omega) rfl) rfl ?_))))) | ((refine Tr.guard_l rfl rfl rfl (by first | (with_reducible rfl) | (with_reducible assumption) | (with_reducible exact Bool.not_true) | (with_reducible exact Bool.not_false)) ?_); (first | (refine xmQ (z := ?_)) | ((with_reducible refine Knd.binOp ?_); (refine Exec.stab rfl (Stab.streq rfl rfl) rfl ?_)) | ((with_reducible refine Knd.convert ?_); (refine Exec.stab rfl (Stab.bstrB rfl (tysOk.get rfl) (tysOk.get rfl) rfl rfl (tysOk.get rfl) rfl (by assumption)) rfl ?_)))) | ((refine Tr.guard_y rfl rfl rfl (by first | (with_reducible assumption) | (with_reducible rfl) | (with_reducible exact (not_not_intro rfl)) | omega) ?_); (with_reducible refine Knd.move ?_); (refine xmQ (z := ?_)))))
  ((refine Tr.guard_y rfl rfl rfl (by first | (with_reducible assumption) | (with_reducible rfl) | (with_reducible exact (not_not_intro rfl)) | omega) ?_)); refine Exec.call0 rfl (rsameFrames_fn M7 _ _ _ _ _ _ hl8 hl9) rfl ?_
  rintro _ _ _ ⟨rfl, rfl⟩
  rw [decide_eq_true rfl]
  (repeat (first | ((with_reducible refine Tr.step rfl ?_); (first | (refine xmQ (z := ?_)) | (refine xaQ (z := ?_)) | ((with_reducible refine Knd.pick ?_); (first | (refine Exec.stab rfl (Stab.pick_t rfl (by first | (with_reducible rfl) | (with_reducible assumption) | (with_reducible exact Bool.not_true) | (with_reducible exact Bool.not_false)) rfl) rfl ?_) | (refine Exec.stab rfl (Stab.pick_td rfl (by first | (with_reducible assumption) | (with_reducible rfl) | (with_reducible exact (not_not_intro rfl)) | omega) rfl) rfl ?_))))) | (with_reducible first | apply Tr.next | apply Tr.nil) | ((refine Tr.guard_l rfl rfl rfl (by first | (with_reducible rfl) | (with_reducible assumption) | (with_reducible exact Bool.not_true) | (with_reducible exact Bool.not_false)) ?_); (first | (refine xmQ (z := ?_)) | (refine xiQ (z := ?_)))) | (with_reducible refine Tr.ret ?_)))
  have hmm : M.le M7 := hm1.trans (hm2.trans (hm3.trans (hm4.trans (hm5.trans (hm6.trans hm7)))))
  (refine dnQ (hL := by exact ⟨[_], rfl⟩) (k := ⟨rfl, ?_⟩))
  rw [decide_eq_true rfl]
  rfl
end Go.Proofs.YtghjhdbmkilakaaDoor

/-
  Frames: how the arguments of the laws read, and the table of constants.
  Conditions: none.
-/
namespace Go.Proofs.YtghjhdbmkilakaaDoor
open Go Bf
open Go.ChangeShapes Go.WideShapes Go.ChangeAt Go.RowKit
set_option maxRecDepth 100000
section
variable {H : Type} {enc : TypeId × Value → H} {W : World} {base : Nat} {v : Value} {w : World} {sp : Nat → Bool} {held : Bool}
theorem int_bounds {n : Int} (hw : (Lit.int .i64 n).wf = true) : -9223372036854775808 ≤ n ∧ n ≤ 9223372036854775807 := by
  have hmin : IntKind.i64.min = -9223372036854775808 := by decide
  have hmax : IntKind.i64.max = 9223372036854775807 := by decide
  simpa [Lit.wf, hmin, hmax] using hw
theorem u3 : Tryd.prog.underlying 3 = some (.int .i64) := (tysOk.get (t := 3) rfl).1
theorem u5 : Tryd.prog.underlying 5 = some (.int .u8) := (tysOk.get (t := 5) rfl).1
theorem u22 : Tryd.prog.underlying 22 = some (.slice 5) := (tysOk.get (t := 22) rfl).1
theorem u29 : Tryd.prog.underlying 29 = some (.slice 24) := (tysOk.get (t := 29) rfl).1
theorem u36 : Tryd.prog.underlying 36 = some (.int .u64) := (tysOk.get (t := 36) rfl).1
theorem u38 : Tryd.prog.underlying 38 = some (.slice 3) := (tysOk.get (t := 38) rfl).1
theorem u44 : Tryd.prog.underlying 44 = some (.slice 58) := (tysOk.get (t := 44) rfl).1
theorem u46 : Tryd.prog.underlying 46 = some (.array 32 5) := (tysOk.get (t := 46) rfl).1
theorem u56 : Tryd.prog.underlying 56 = some (.slice 38) := (tysOk.get (t := 56) rfl).1
theorem u116 : Tryd.prog.underlying 116 = some (.int .u32) := (tysOk.get (t := 116) rfl).1
theorem u137 : Tryd.prog.underlying 137 = some (.array 64 116) := (tysOk.get (t := 137) rfl).1
theorem c3 : Tryd.prog.cellsOf 3 = 1 := by kernel_rfl
theorem c5 : Tryd.prog.cellsOf 5 = 1 := by kernel_rfl
theorem c22 : Tryd.prog.cellsOf 22 = 1 := by kernel_rfl
theorem c24 : Tryd.prog.cellsOf 24 = 2 := by kernel_rfl
theorem c38 : Tryd.prog.cellsOf 38 = 1 := by kernel_rfl
theorem c44 : Tryd.prog.cellsOf 44 = 1 := by kernel_rfl
theorem c46 : Tryd.prog.cellsOf 46 = 32 := by kernel_rfl
theorem c48 : Tryd.prog.cellsOf 48 = 43 := by kernel_rfl
theorem c56 : Tryd.prog.cellsOf 56 = 1 := by kernel_rfl
theorem c58 : Tryd.prog.cellsOf 58 = 2 := by kernel_rfl
theorem c116 : Tryd.prog.cellsOf 116 = 1 := by kernel_rfl
abbrev I64 (x : Int) : Prop := -9223372036854775808 ≤ x ∧ x ≤ 9223372036854775807
/-- what is read says more than its form -/
theorem slOf_split {α : Type} {sz : Nat} {R R' : Mem → List Value → α → Prop} {Q : α → Prop} {M : Mem} {v : Value} {xs : List α} (h : SlOf sz R M v xs) (hR : ∀ c x, R M c x → R' M c x ∧ Q x) : SlOf sz R' M v xs ∧ ∀ x ∈ xs, Q x := by
  obtain ⟨A, c, cells, h1, h2, h3, h4, h5, h6⟩ := h
  refine ⟨⟨A, c, cells, h1, h2, h3, h4, h5, fun i x hx => (hR _ _ (h6 i x hx)).1⟩, fun x hx => ?_⟩
  obtain ⟨i, hi⟩ := List.getElem?_of_mem hx
  exact (hR _ _ (h6 i x hi)).2
theorem arg_uint (h : Arg enc Tryd.prog W base 36 v) : ∃ a : Nat, v = .int .u64 (a : Int) ∧ a < 18446744073709551616 := by
  obtain ⟨k0, f0, x, g0⟩ := h
  obtain ⟨n, rfl⟩ := okWide_int u36 k0
  obtain ⟨m, e, hw⟩ := read_int u36 g0
  simp [Value.cells] at e
  subst e
  have hmin : IntKind.u64.min = 0 := by decide
  have hmax : IntKind.u64.max = 18446744073709551615 := by decide
  have hb : 0 ≤ n ∧ n ≤ 18446744073709551615 := by simpa [Lit.wf, hmin, hmax] using hw
  exact ⟨n.toNat, by rw [Int.toNat_of_nonneg hb.1], by omega⟩
theorem arg_bytes (h : Arg enc Tryd.prog W base 22 v) : ∃ (bs : List UInt8) (A : Option Addr) (c : Nat), v = .slice A bs.length c ∧ BSl (Bf.hp W) (.slice A bs.length c) bs := by
  obtain ⟨k0, f0, x, g0⟩ := h
  obtain ⟨A, len, cap, rfl⟩ := okWide_slice u22 k0
  exact read_bytes u22 u5 c5 g0
theorem len2' {l : List Value} (h : l.length = 2) : ∃ a b, l = [a, b] := by
  match l, h with
  | [a, b], _ => exact ⟨a, b, rfl⟩
theorem open_frm {cs : List Value} {fuel : Nat} {x : DataW H × List MemPlace} (h : DataW.trod enc Tryd.prog w 0 sp held fuel 24 cs = some x) : ∃ y : Frm, RFrm (Bf.hp w) cs y := by
  obtain ⟨hl, g, hg⟩ := read_struct Tryd.underlying24 h
  rw [c24] at hl
  obtain ⟨a, b, rfl⟩ := len2' hl
  obtain ⟨y0, h0⟩ : ∃ y, DataW.trod enc Tryd.prog w 0 sp held g 3 (([a, b].drop 0).take (Tryd.prog.cellsOf 3)) = some y := hg 0 _ rfl
  obtain ⟨y1, h1⟩ : ∃ y, DataW.trod enc Tryd.prog w 0 sp held g 22 (([a, b].drop 1).take (Tryd.prog.cellsOf 22)) = some y := hg 1 _ rfl
  rw [c3] at h0
  rw [c22] at h1
  obtain ⟨n0, e0, w0⟩ := read_int u3 h0
  cases e0
  obtain ⟨bs, A, c, rfl, hb⟩ := read_bytes u22 u5 c5 h1
  exact ⟨⟨n0, bs⟩, A, c, rfl, hb, int_bounds w0⟩
theorem arg_frm (h : Arg enc Tryd.prog W base 24 v) : ∃ (f : Frm) (A : Option Addr) (c : Nat), v = .agg #[.int .i64 f.kind, .slice A f.body.length c] ∧ BSl (Bf.hp W) (.slice A f.body.length c) f.body := by
  obtain ⟨k0, f0, x, g0⟩ := h
  unfold Value.okWide at k0
  rw [Tryd.underlying24] at k0
  obtain ⟨cs, rfl, -, -⟩ := k0
  obtain ⟨f, A, c, e, hb, -⟩ := open_frm g0
  refine ⟨f, A, c, ?_, hb⟩
  have : cs.toList = [.int .i64 f.kind, .slice A f.body.length c] := by simpa [Value.cells] using e
  rw [← Array.toArray_toList (xs := cs), this]
theorem arg_frms (h : Arg enc Tryd.prog W base 29 v) : ∃ (l : List Frm) (A : Option Addr) (c : Nat), v = .slice A l.length c ∧ RFrms (Bf.hp W) (.slice A l.length c) l := by
  obtain ⟨k0, f0, x, g0⟩ := h
  obtain ⟨A, len, cap, rfl⟩ := okWide_slice u29 k0
  exact read_slOf (R := RFrm) u29 c24 (by omega) (fun f cs y hl hy => by
    obtain ⟨z, A, c, rfl, hz⟩ := open_frm hy
    exact ⟨by intro u hu; simp at hu; rcases hu with rfl | rfl <;> rfl, z, A, c, rfl, hz⟩) (by simpa [Value.cells] using g0)
/-- a slice of whole numbers -/
theorem read_ints {fuel : Nat} {v : Value} {x : DataW H × List MemPlace} (h : DataW.trod enc Tryd.prog w 0 sp held fuel 38 [v] = some x) : ∃ (l : List Int) (A : Option Addr) (c : Nat), v = .slice A l.length c ∧ Ints (Bf.hp w) (.slice A l.length c) l ∧ ∀ y ∈ l, I64 y := by
  obtain ⟨l, A, c, rfl, hs⟩ := read_slOf (R := fun M c x => RI M c x ∧ I64 x) u38 c3 (by omega) (fun f cs y hl hy => by
    obtain ⟨n, rfl, hn⟩ := read_int u3 hy
    exact ⟨by intro u hu; simp at hu; subst hu; rfl, n, rfl, int_bounds hn⟩) h
  obtain ⟨h1, h2⟩ := slOf_split hs (R' := RI) (Q := I64) fun c x hx => hx
  exact ⟨l, A, c, rfl, h1, h2⟩
theorem read_rows {fuel : Nat} {v : Value} {x : DataW H × List MemPlace} (h : DataW.trod enc Tryd.prog w 0 sp held fuel 56 [v] = some x) : ∃ (l : List (List Int)) (A : Option Addr) (c : Nat), v = .slice A l.length c ∧ SlOf 1 RRowI (Bf.hp w) (.slice A l.length c) l ∧ ∀ y ∈ l, ∀ z ∈ y, I64 z := by
  obtain ⟨l, A, c, rfl, hs⟩ := read_slOf (R := fun M c x => RRowI M c x ∧ ∀ z ∈ x, I64 z) u56 c38 (by omega) (fun f cs y hl hy => by
    obtain ⟨a, rfl⟩ := List.length_eq_one_iff.1 hl
    obtain ⟨l, A, c, rfl, h1, h2⟩ := read_ints hy
    exact ⟨by intro u hu; simp at hu; subst hu; rfl, l, ⟨A, c, rfl, h1⟩, h2⟩) h
  obtain ⟨h1, h2⟩ := slOf_split hs (R' := RRowI) (Q := fun y => ∀ z ∈ y, I64 z) fun c x hx => hx
  exact ⟨l, A, c, rfl, h1, h2⟩
def RelI (r : Rel) : Prop := (∀ y ∈ r.out, I64 y) ∧ ∀ y ∈ r.inn, ∀ z ∈ y, I64 z
theorem RelI.ok {r : Rel} (h : RelI r) : Ok64 (relV r) := ok_lV fun x hx => by
  rcases List.mem_cons.1 hx with rfl | hx
  · exact s_nums h.1
  · rw [List.mem_singleton.1 hx]
    exact ok_lV fun y hy => by obtain ⟨z, hz, rfl⟩ := List.mem_map.1 hy; exact s_nums (h.2 z hz)
theorem read_rels {fuel : Nat} {v : Value} {x : DataW H × List MemPlace} (h : DataW.trod enc Tryd.prog w 0 sp held fuel 44 [v] = some x) : ∃ (l : List Rel) (A : Option Addr) (c : Nat), v = .slice A l.length c ∧ RRels (Bf.hp w) (.slice A l.length c) l ∧ ∀ y ∈ l, RelI y := by
  obtain ⟨l, A, c, rfl, hs⟩ := read_slOf (R := fun M c x => RRel M c x ∧ RelI x) u44 c58 (by omega) (fun f cs y hl hy => by
    obtain ⟨-, g, hg⟩ := read_struct Tryd.underlying58 hy
    obtain ⟨a, b, rfl⟩ := len2' hl
    obtain ⟨y0, h0⟩ : ∃ y, DataW.trod enc Tryd.prog w 0 sp held g 38 (([a, b].drop 0).take (Tryd.prog.cellsOf 38)) = some y := hg 0 _ rfl
    obtain ⟨y1, h1⟩ : ∃ y, DataW.trod enc Tryd.prog w 0 sp held g 56 (([a, b].drop 1).take (Tryd.prog.cellsOf 56)) = some y := hg 1 _ rfl
    rw [c38] at h0
    rw [c56] at h1
    obtain ⟨o, A, c, rfl, p1, p2⟩ := read_ints h0
    obtain ⟨n, B, d, rfl, q1, q2⟩ := read_rows h1
    exact ⟨by intro u hu; simp at hu; rcases hu with rfl | rfl <;> rfl, ⟨o, n⟩, ⟨A, c, B, d, rfl, p1, q1⟩, p2, q2⟩) h
  obtain ⟨h1, h2⟩ := slOf_split hs (R' := RRel) (Q := RelI) fun c x hx => hx
  exact ⟨l, A, c, rfl, h1, h2⟩
theorem read_u8 {fuel : Nat} {c : Value} {y : DataW H × List MemPlace} (g0 : DataW.trod enc Tryd.prog w 0 sp held fuel 5 [c] = some y) : ∃ a : UInt8, c = .int .u8 (a.toNat : Int) := by
  obtain ⟨m, e, hw⟩ := read_int u5 g0
  cases e
  have hmin : IntKind.u8.min = 0 := by decide
  have hmax : IntKind.u8.max = 255 := by decide
  have : 0 ≤ m ∧ m ≤ 255 := by simpa [Lit.wf, hmin, hmax] using hw
  refine ⟨UInt8.ofNat m.toNat, ?_⟩
  have e : ((UInt8.ofNat m.toNat).toNat : Int) = m := by
    simp [UInt8.toNat_ofNat']
    omega
  rw [e]
theorem read_dig {fuel : Nat} {cs : List Value} {x : DataW H × List MemPlace} (g0 : DataW.trod enc Tryd.prog w 0 sp held fuel 46 cs = some x) (hlen : cs.length = 32) : ∃ d : List UInt8, cs = byteV d ∧ d.length = 32 := by
  obtain ⟨xs, m, rfl, hx, -, hxs, hel⟩ := DataW.trod_array u46 g0
  have : ∃ l : List UInt8, l.length = 32 ∧ ∀ (i : Nat) x, l[i]? = some x → cs[i]? = some (.int .u8 (x.toNat : Int)) := by
    refine pick_list fun i hi => ?_
    have h0 := hel i hi
    rw [c5, Nat.mul_one] at h0
    have hc : ∃ c, cs[i]? = some c := ⟨cs[i], by simp [hlen, hi]⟩
    obtain ⟨c, hc⟩ := hc
    have e : (cs.drop i).take 1 = [c] := by
      rw [List.take_one, List.head?_drop, hc]
      rfl
    rw [e, List.getElem?_eq_getElem (by omega)] at h0
    obtain ⟨a, rfl⟩ := read_u8 h0
    exact ⟨a, hc⟩
  obtain ⟨d, hd, hall⟩ := this
  refine ⟨d, ?_, hd⟩
  apply List.ext_getElem?
  intro i
  by_cases hi : i < 32
  · have := hall i (d[i]'(by omega)) (by simp [hd, hi])
    rw [this]
    simp [byteV, hd, hi]
  · rw [List.getElem?_eq_none (by omega), List.getElem?_eq_none (by simp; omega)]
theorem len43c {l : List Value} (h : l.length = 43) : ∃ a b c d e f g h i j k r, l = a :: b :: c :: d :: e :: f :: g :: h :: i :: j :: k :: r ∧ r.length = 32 := by
  match l, h with
  | a :: b :: c :: d :: e :: f :: g :: h' :: i :: j :: k :: r, h => exact ⟨a, b, c, d, e, f, g, h', i, j, k, r, rfl, by simpa using h⟩
theorem open_msg {cs : List Value} {fuel : Nat} {x : DataW H × List MemPlace} (h : DataW.trod enc Tryd.prog w 0 sp held fuel 48 cs = some x) : ∃ m : Msg, RMsg (Bf.hp w) cs m := by
  obtain ⟨hl, g, hg⟩ := read_struct Tryd.underlying48 h
  rw [c48] at hl
  obtain ⟨a, b, c, d, e, f, g0, h', i, j, k, r, rfl, hr⟩ := len43c hl
  obtain ⟨y0, h0⟩ : ∃ y, DataW.trod enc Tryd.prog w 0 sp held g 3 (((a :: b :: c :: d :: e :: f :: g0 :: h' :: i :: j :: k :: r).drop 0).take (Tryd.prog.cellsOf 3)) = some y := hg 0 _ rfl
  obtain ⟨y1, h1⟩ : ∃ y, DataW.trod enc Tryd.prog w 0 sp held g 3 (((a :: b :: c :: d :: e :: f :: g0 :: h' :: i :: j :: k :: r).drop 1).take (Tryd.prog.cellsOf 3)) = some y := hg 1 _ rfl
  obtain ⟨y2, h2⟩ : ∃ y, DataW.trod enc Tryd.prog w 0 sp held g 3 (((a :: b :: c :: d :: e :: f :: g0 :: h' :: i :: j :: k :: r).drop 2).take (Tryd.prog.cellsOf 3)) = some y := hg 2 _ rfl
  obtain ⟨y3, h3⟩ : ∃ y, DataW.trod enc Tryd.prog w 0 sp held g 3 (((a :: b :: c :: d :: e :: f :: g0 :: h' :: i :: j :: k :: r).drop 3).take (Tryd.prog.cellsOf 3)) = some y := hg 3 _ rfl
  obtain ⟨y4, h4⟩ : ∃ y, DataW.trod enc Tryd.prog w 0 sp held g 3 (((a :: b :: c :: d :: e :: f :: g0 :: h' :: i :: j :: k :: r).drop 4).take (Tryd.prog.cellsOf 3)) = some y := hg 4 _ rfl
  obtain ⟨y5, h5⟩ : ∃ y, DataW.trod enc Tryd.prog w 0 sp held g 3 (((a :: b :: c :: d :: e :: f :: g0 :: h' :: i :: j :: k :: r).drop 5).take (Tryd.prog.cellsOf 3)) = some y := hg 5 _ rfl
  obtain ⟨y6, h6⟩ : ∃ y, DataW.trod enc Tryd.prog w 0 sp held g 3 (((a :: b :: c :: d :: e :: f :: g0 :: h' :: i :: j :: k :: r).drop 6).take (Tryd.prog.cellsOf 3)) = some y := hg 6 _ rfl
  obtain ⟨y7, h7⟩ : ∃ y, DataW.trod enc Tryd.prog w 0 sp held g 3 (((a :: b :: c :: d :: e :: f :: g0 :: h' :: i :: j :: k :: r).drop 7).take (Tryd.prog.cellsOf 3)) = some y := hg 7 _ rfl
  obtain ⟨y8, h8⟩ : ∃ y, DataW.trod enc Tryd.prog w 0 sp held g 38 (((a :: b :: c :: d :: e :: f :: g0 :: h' :: i :: j :: k :: r).drop 8).take (Tryd.prog.cellsOf 38)) = some y := hg 8 _ rfl
  obtain ⟨y9, h9⟩ : ∃ y, DataW.trod enc Tryd.prog w 0 sp held g 38 (((a :: b :: c :: d :: e :: f :: g0 :: h' :: i :: j :: k :: r).drop 9).take (Tryd.prog.cellsOf 38)) = some y := hg 9 _ rfl
  obtain ⟨y10, h10⟩ : ∃ y, DataW.trod enc Tryd.prog w 0 sp held g 44 (((a :: b :: c :: d :: e :: f :: g0 :: h' :: i :: j :: k :: r).drop 10).take (Tryd.prog.cellsOf 44)) = some y := hg 10 _ rfl
  obtain ⟨y11, h11⟩ : ∃ y, DataW.trod enc Tryd.prog w 0 sp held g 46 (((a :: b :: c :: d :: e :: f :: g0 :: h' :: i :: j :: k :: r).drop 11).take (Tryd.prog.cellsOf 46)) = some y := hg 11 _ rfl
  rw [c3] at h0 h1 h2 h3 h4 h5 h6 h7
  rw [c38] at h8 h9
  rw [c44] at h10
  rw [c46] at h11
  obtain ⟨n0, e0, w0⟩ := read_int u3 h0
  cases e0
  replace w0 := int_bounds w0
  obtain ⟨n1, e1, w1⟩ := read_int u3 h1
  cases e1
  replace w1 := int_bounds w1
  obtain ⟨n2, e2, w2⟩ := read_int u3 h2
  cases e2
  replace w2 := int_bounds w2
  obtain ⟨n3, e3, w3⟩ := read_int u3 h3
  cases e3
  replace w3 := int_bounds w3
  obtain ⟨n4, e4, w4⟩ := read_int u3 h4
  cases e4
  replace w4 := int_bounds w4
  obtain ⟨n5, e5, w5⟩ := read_int u3 h5
  cases e5
  replace w5 := int_bounds w5
  obtain ⟨n6, e6, w6⟩ := read_int u3 h6
  cases e6
  replace w6 := int_bounds w6
  obtain ⟨n7, e7, w7⟩ := read_int u3 h7
  cases e7
  replace w7 := int_bounds w7
  obtain ⟨la, A, ca, rfl, p1, p2⟩ := read_ints h8
  obtain ⟨ve, B, cb, rfl, q1, q2⟩ := read_ints h9
  obtain ⟨re, C, cc, rfl, r1, r2⟩ := read_rels h10
  obtain ⟨s, hs, hsl⟩ := read_dig (cs := r.take 32) h11 (by rw [List.length_take, hr]; rfl)
  rw [List.take_of_length_le (by omega)] at hs
  subst hs
  refine ⟨⟨n0, [n1, n2, n3, n4, n5, n6, n7], la, ve, re, s⟩, ⟨n1, n2, n3, n4, n5, n6, n7, A, ca, B, cb, C, cc, rfl, rfl, p1, q1, r1⟩, s_msgW hsl rfl ?_ (s_nums p2) (s_nums q2) (fun y hy => (r2 y hy).ok), w0⟩
  intro z hz
  simp only [List.mem_cons, List.not_mem_nil, or_false] at hz
  rcases hz with rfl | rfl | rfl | rfl | rfl | rfl | rfl <;> assumption
theorem arg_msg (h : Arg enc Tryd.prog W base 48 v) : ∃ (m : Msg) (u : List Value), v = .agg u.toArray ∧ RMsg (Bf.hp W) u m := by
  obtain ⟨k0, f0, x, g0⟩ := h
  unfold Value.okWide at k0
  rw [Tryd.underlying48] at k0
  obtain ⟨cs, rfl, -, -⟩ := k0
  obtain ⟨m, hm⟩ := open_msg g0
  exact ⟨m, _, by simp [Value.cells], hm⟩
end
theorem len1 {l : List Value} (h : l.length = 1) : ∃ a, l = [a] := by
  match l, h with
  | [a], _ => exact ⟨a, rfl⟩
theorem len2 {l : List Value} (h : l.length = 2) : ∃ a b, l = [a, b] := by
  match l, h with
  | [a, b], _ => exact ⟨a, b, rfl⟩
theorem len3 {l : List Value} (h : l.length = 3) : ∃ a b c, l = [a, b, c] := by
  match l, h with
  | [a, b, c], _ => exact ⟨a, b, c, rfl⟩
theorem len4 {l : List Value} (h : l.length = 4) : ∃ a b c d, l = [a, b, c, d] := by
  match l, h with
  | [a, b, c, d], _ => exact ⟨a, b, c, d, rfl⟩
theorem ownT' : ownKnob Tryd.checked.prog.godebug = none := by kernel_rfl
theorem laidT' : laidOutB Tryd.checked.prog = true := by kernel_rfl
theorem gK : Tryd.prog.globalNamed "backflush/digest.constants" = some 0 := by kernel_rfl
/-- the constants as whole numbers -/
def kI : List Int := Dg.Kw.map fun x => (x.toNat : Int)
theorem kI_at {M : Mem} (h : At M ⟨0, 0, none⟩ (kI.map fun x => .int .u32 x)) : At M ⟨0, 0, none⟩ (wV Dg.Kw) := by
  have e : (kI.map fun x => Value.int .u32 x) = wV Dg.Kw := by simp [kI, wV]
  rwa [e] at h
theorem kI_laid : (DataW.agg (kI.map fun x => .lit (.int .u32 x)) : DataW Unit) = Rows.laid_backflush_digest_constants := by kernel_rfl
theorem door_met (os : Os) (args : Array Value) : laidMetH Tryd.prog [("backflush/digest.constants", .agg (kI.map fun x => .lit (.int .u32 x)))] ((World.doorLaid Tryd.prog 400 os).forCall (fun _ _ => 0) ⟨#[], args, []⟩).memory :=
  laidMetH_of_parts3 (fuel := 8) (laidMet_of_run' 8 (by kernel_rfl) (by kernel_rfl)) (by kernel_rfl) (by kernel_rfl)
end Go.Proofs.YtghjhdbmkilakaaDoor

/-
  Frames: the tied card of FramesSpec.
  Conditions: none.
-/
namespace Go.Proofs.YtghjhdbmkilakaaDoor
open Go Bf
open Go.ChangeShapes Go.WideShapes Go.ChangeAt Go.RowKit
set_option maxRecDepth 100000 in
theorem framesSpec_lifted (os : Os) (started : os.Started) (H : Type) (enc : TypeId × Value → H) :
    ReturnsInHanded {} Tryd.checked os 3 .any (fun w args => (Rows.framesSpecSpec.pre enc Tryd.prog Tryd.f3 [] false w args ∧ laidMetH Tryd.prog [("backflush/digest.constants", .agg (kI.map fun x => .lit (.int .u32 x)))] w) ∧ sizedMet enc Tryd.prog Tryd.f3 (OpenSpec.ofChange Rows.framesSpecSpec) false w args) (Rows.framesSpecSpec.post enc Tryd.prog Tryd.f3 false true false false) :=
  lift_true_laid (C := Tryd.checked) (ts := [24, 22]) (tb := 4) (name := "backflush/digest.constants") (g := 0) (ns := kI) started ownT' (by kernel_rfl) Tryd.func3
    (ChangeSpec.witness_shaped (enc := enc) (C := Tryd.checked) (os := os) (X := fun w _ => laidMetH Tryd.prog [("backflush/digest.constants", .agg (kI.map fun x => .lit (.int .u32 x)))] w) false (World.doorLaid Tryd.prog 400 os) #[.agg #[.int .i64 0, .slice none 0 0], .slice none 0 0] 8 rfl (World.shaped_of_RefB (by kernel_rfl) (by kernel_rfl)) (by kernel_rfl) (by kernel_rfl) (by kernel_rfl) (door_met os _))
    (by rw [Tryd.params3]) laidT' (by kernel_rfl) rfl (fun ds h => match ds, h with | [_, _], _ => rfl) rfl Tryd.underlying4
    gK (by kernel_rfl) u137 u116 c116 (by decide)
    (fun W base vs hK0 hl ha => by
      have hK := kI_at hK0
      obtain ⟨v0, v1, rfl⟩ := len2 hl
      obtain ⟨a, aA, ac, rfl, qa⟩ := arg_frm (ha 0 24 v0 rfl rfl)
      obtain ⟨b, bA, bc, rfl, qb⟩ := arg_bytes (ha 1 22 v1 rfl rfl)
      exact law3_fn _ hK a aA bA ac bc b qa qb)
theorem framesSpec_row : Rows.FramesSpecSaid :=
  OpenClaim.holds_of_wide 3 Tryd.f3 rfl rfl rfl rfl rfl rfl rfl ⟨rfl, rfl, rfl, rfl, rfl⟩ rfl rfl rfl rfl rfl (by kernel_rfl) Tryd.func3 (by kernel_rfl)
    (of_decide_eq_true (by kernel_rfl)) (by unfold Func.isWrapper; first | (rw [if_pos (by decide +kernel)]; kernel_rfl) | (rw [if_neg (by decide +kernel)]; exact ⟨rfl, rfl⟩))
    (fun os started H enc _ => by
      have h := framesSpec_lifted os started H enc
      rw [kI_laid] at h
      exact h)
theorem framesSpec_holds : Rows.FramesSpecCardSaid :=
  Claim7.holds_tied_plain_at .later [] [.data] true Rows.framesSpecCard.stood.harness false
    framesSpec_row (fun _ h => by cases h) (by kernel_rfl) (fun _ h => by cases h) framesSpec_row_tie rfl ⟨rfl, rfl⟩ (by kernel_rfl) rfl
    (fun f fn hf hfn => by
      obtain rfl : f = 3 := Option.some.inj ((show Tryd.prog.funcNamed "backflush/backflushlaw47.FramesSpec" = some 3 by kernel_rfl).symm.trans hf) |>.symm
      obtain rfl : fn = Tryd.f3 := (Option.some.inj (Tryd.func3.symm.trans hfn)).symm
      exact ⟨by kernel_rfl, fun j t ht => by
        rw [Tryd.params3] at ht
        have hm : t ∈ [24, 22] := by simpa using Array.mem_of_getElem? ht
        have hall : ([24, 22].all fun u => !Tryd.prog.wantsStandIn u) = true := by kernel_rfl
        exact (show Tryd.prog.wantsStandIn t = false by simpa using List.all_eq_true.1 hall t hm)⟩)
    (by kernel_rfl)
end Go.Proofs.YtghjhdbmkilakaaDoor

/-
  Frames: FewFrames, Few and joined.
  Conditions: none.
-/
namespace Go.Proofs.YtghjhdbmkilakaaDoor
open Go Bf
attribute [local irreducible] Tr Exec Stab HasTy Go.Addr.add IntKind.wrap
set_option maxHeartbeats 2000000 in
theorem fewFrames_fn (M : Mem) (p : List Frm) (A : Option Addr) (c : Nat) (hp : RFrms M (.slice A p.length c) p) :
    Fn0 Tryd.prog 16 [.slice A p.length c] M (fun r M' => (∃ b : Bool, r = .bool b ∧ (b = true → p.length ≤ 8)) ∧ M = M') := by
  have l1 := hp.len_le
  refine Fn.intro Tryd.func16 rfl rfl Tryd.ntmps16 rfl fun E F => ?_
  (repeat (first | ((with_reducible refine Tr.step rfl ?_); (with_reducible refine Knd.assign ?_); (refine xaQ (z := ?_))) | (with_reducible first | apply Tr.next | apply Tr.seq | apply Tr.region | apply Tr.nil | apply Tr.block)))
  refine Tr.loop (α := Nat × Int) (fun y => ⟨26, [(4, .int .i64 (y.1 : Int)), (3, .int .i64 y.2), (0, .slice A p.length c)], [], M, [] ++ F⟩) (fun y => y.1 ≤ p.length) (fun y => p.length - y.1) (0, 0) (by simp) hsQ (fun y hi => ?_)
  obtain ⟨i, n⟩ := y
  dsimp only at hi ⊢
  by_cases hlt : i < p.length
  · obtain ⟨x, hx⟩ := get_of_lt hlt
    obtain ⟨hA, ch, hat, A1, k1, rfl, hb1, hk1⟩ := hp.elem hx
    have hat1 : At M (((A.getD default).add (i * 2)).add 1) [.slice A1 x.body.length k1] := hat.tail
    (repeat (first | ((with_reducible refine Tr.step rfl ?_); (first | (refine xmQ (z := ?_)) | (refine xaQ (z := ?_)) | (refine xMQ (z := ?_)) | ((with_reducible refine Knd.fieldAddr ?_); (refine Exec.stab rfl (Stab.fieldD rfl (tysOk.get rfl) rfl rfl (tysOk.get rfl) rfl) rfl ?_)) | (refine xnQ (z := ?_)) | ((with_reducible refine Knd.binOp ?_); (first | (refine xdQ (z := ?_)) | (refine xiQ (z := ?_)))) | (refine xxQ (z := ?_)))) | (with_reducible first | apply Tr.next | apply Tr.seq | apply Tr.region | apply Tr.nil | apply Tr.skip | apply Tr.block | apply Tr.in_normal) | (refine Tr.cond_t rfl (by first | (with_reducible assumption) | (with_reducible rfl) | (with_reducible exact (not_not_intro rfl)) | omega) ?_)))
    refine Tr.again (i + 1, _) (by simp only; omega) (by simp only; omega) hsQ
  · by_cases h8 : (p.length : Int) ≤ 8
    · (repeat (first | ((with_reducible refine Tr.step rfl ?_); (first | (refine xmQ (z := ?_)) | (refine xaQ (z := ?_)) | (refine xnQ (z := ?_)) | (refine xiQ (z := ?_)) | ((with_reducible refine Knd.pick ?_); (refine Exec.stab rfl (Stab.pick_td rfl (by first | (with_reducible assumption) | (with_reducible rfl) | (with_reducible exact (not_not_intro rfl)) | omega) rfl) rfl ?_)))) | (with_reducible first | apply Tr.next | apply Tr.seq | apply Tr.region | apply Tr.nil) | ((refine Tr.guard_y rfl rfl rfl (by first | (with_reducible assumption) | (with_reducible rfl) | (with_reducible exact (not_not_intro rfl)) | omega) ?_); (first | (refine xmQ (z := ?_)) | (refine xiQ (z := ?_)))) | (with_reducible first | apply Tr.exit | apply Tr.ret | apply Tr.then_exit) | ((with_reducible refine Tr.in_exit ?_ ?_); (exact rfl)) | (refine Tr.cond_f rfl (by first | (with_reducible assumption) | (with_reducible rfl) | (with_reducible exact (not_not_intro rfl)) | omega) ?_)))
      (refine dnQ (hL := by exact ⟨[], rfl⟩) (k := ⟨rfl, ?_⟩))
      exact ⟨⟨_, rfl, fun _ => by omega⟩, rfl⟩
    · (repeat (first | ((with_reducible refine Tr.step rfl ?_); (first | (refine xmQ (z := ?_)) | (refine xaQ (z := ?_)) | (refine xnQ (z := ?_)) | (refine xiQ (z := ?_)) | ((with_reducible refine Knd.pick ?_); (refine Exec.stab rfl (Stab.pick_fd rfl (by first | (with_reducible assumption) | (with_reducible rfl) | (with_reducible exact (not_not_intro rfl)) | omega) rfl) rfl ?_)))) | (with_reducible first | apply Tr.next | apply Tr.seq | apply Tr.region | apply Tr.nil) | (refine Tr.guard_n rfl rfl rfl (by first | (with_reducible assumption) | (with_reducible rfl) | (with_reducible exact (not_not_intro rfl)) | omega) rfl rfl ?_) | (with_reducible first | apply Tr.exit | apply Tr.ret | apply Tr.then_exit) | ((with_reducible refine Tr.in_exit ?_ ?_); (exact rfl)) | (refine Tr.cond_f rfl (by first | (with_reducible assumption) | (with_reducible rfl) | (with_reducible exact (not_not_intro rfl)) | omega) ?_)))
      (refine dnQ (hL := by exact ⟨[], rfl⟩) (k := ⟨rfl, ?_⟩))
      exact ⟨⟨false, rfl, fun h => by cases h⟩, rfl⟩
set_option maxHeartbeats 4000000 in
theorem few_fn (M : Mem) (p : Msg) (u : List Value) (hp : RMsg M u p) :
    Fn0 Tryd.prog 18 [.agg u.toArray] M (fun r M' => (∃ b : Bool, r = .bool b) ∧ M = M') := by
  obtain ⟨⟨a0, a1, a2, a3, a4, a5, a6, A, c, B, d, C, e, pe, rfl, p1, p2, p3⟩, pw, -⟩ := hp
  have l3 := p3.len_le
  have psl2 : (byteV p.sl).length = 32 := by simpa using pw.1
  refine Fn.intro Tryd.func18 rfl rfl Tryd.ntmps18 rfl fun E F => ?_
  (repeat (first | ((with_reducible refine Tr.step rfl ?_); (first | (refine xaQ (z := ?_)) | (refine xlQ (z := ?_)) | (refine xfQ (z := ?_)) | (refine xnQ (z := ?_)) | (refine xiQ (z := ?_)) | ((with_reducible refine Knd.box ?_); (refine Exec.box rfl rfl (fun b => ?_))))) | (with_reducible first | apply Tr.next | apply Tr.seq | apply Tr.region | apply Tr.nil | apply Tr.block)))
  refine Tr.loop (α := Nat × Int) (fun y => ⟨66, [(4, .int .i64 (y.1 : Int)), (3, .int .i64 y.2), (2, .bool false), (1, .pointer (some ⟨b, 0, none⟩))], [], M, box b 48 (.int .i64 p.kind :: .int .i64 a0 :: .int .i64 a1 :: .int .i64 a2 :: .int .i64 a3 :: .int .i64 a4 :: .int .i64 a5 :: .int .i64 a6 :: .slice A p.labels.length c :: .slice B p.verdicts.length d :: .slice C p.rels.length e :: byteV p.sl) :: ([] ++ F)⟩) (fun y => y.1 ≤ p.rels.length) (fun y => p.rels.length - y.1) (0, _) (by simp) hsQ (fun y hi => ?_)
  obtain ⟨i, n⟩ := y
  dsimp only at hi ⊢
  by_cases hlt : i < p.rels.length
  rotate_left
  · (repeat (first | ((with_reducible refine Tr.step rfl ?_); (first | (refine xmQ (z := ?_)) | (refine xaQ (z := ?_)) | (refine xlQ (z := ?_)) | (refine xfQ (z := ?_)) | (refine xnQ (z := ?_)) | (refine xiQ (z := ?_)))) | (with_reducible first | apply Tr.next | apply Tr.seq | apply Tr.region | apply Tr.nil | apply Tr.exit | apply Tr.ret | apply Tr.then_exit) | ((with_reducible refine Tr.in_exit ?_ ?_); (exact rfl)) | (refine Tr.cond_f rfl (by first | (with_reducible assumption) | (with_reducible rfl) | (with_reducible exact (not_not_intro rfl)) | omega) ?_)))
    (refine dnQ (hL := by exact ⟨[_], rfl⟩) (k := ⟨rfl, ?_⟩))
    exact ⟨⟨_, rfl⟩, rfl⟩
  obtain ⟨x, hx⟩ := get_of_lt hlt
  obtain ⟨hA, ch, hat, A1, k1, A2, k2, rfl, hr1, hr2⟩ := p3.elem hx
  have hat0 : At M (((C.getD default).add (i * 2)).add 0) [.slice A1 x.out.length k1, .slice A2 x.inn.length k2] := hat.drop 0
  have hat1 : At M (((C.getD default).add (i * 2)).add 1) [.slice A2 x.inn.length k2] := hat.tail
  have l4 := hr2.len_le
  (repeat (first | ((with_reducible refine Tr.step rfl ?_); (first | (refine xmQ (z := ?_)) | (refine xlQ (z := ?_)) | (refine xfQ (z := ?_)) | (refine xnQ (z := ?_)) | (refine xiQ (z := ?_)))) | (with_reducible first | apply Tr.next | apply Tr.seq | apply Tr.region | apply Tr.nil | apply Tr.skip | apply Tr.block) | (refine Tr.cond_t rfl (by first | (with_reducible assumption) | (with_reducible rfl) | (with_reducible exact (not_not_intro rfl)) | omega) ?_)))
  (((apply Tr.draw); (kernel_rfl)); (refine tkQ 0 (hB := by exact fun _ h => h) (s := by exact Stab.move rfl) (h := ?_)); (refine tkQ 1 (s := by exact sfQ) (h := ?_)); (refine tkQ 3 (s := by exact Stab.move rfl) (h := ?_)); (refine tkQ 9 (s := by exact sfQ) (h := ?_)); (refine tkQ 11 (s := by exact Stab.move rfl) (h := ?_)); (refine tkQ 2 (s := by exact slQ) (h := ?_)); (refine tkQ 10 (s := by exact slQ) (h := ?_)); (refine tkQ 4 (s := by exact sxQ) (h := ?_)); (refine tkQ 12 (s := by exact sxQ) (h := ?_)); (refine tkQ 5 (s := by exact Stab.fieldD rfl (tysOk.get rfl) rfl rfl (tysOk.get rfl) rfl) (h := ?_)); (refine tkQ 13 (s := by exact Stab.fieldD rfl (tysOk.get rfl) rfl rfl (tysOk.get rfl) rfl) (h := ?_)); (refine tkQ 6 (s := by exact sMQ) (h := ?_)); (refine tkQ 14 (s := by exact sMQ) (h := ?_)); (refine tkQ 7 (s := by first | exact snQ | exact Stab.lensL rfl (tysOk.get rfl) rfl | exact Stab.lens rfl (tysOk.get rfl) rfl) (h := ?_)); (refine tkQ 15 (s := by first | exact snQ | exact Stab.lensL rfl (tysOk.get rfl) rfl | exact Stab.lens rfl (tysOk.get rfl) rfl) (h := ?_)); (refine tkQ 8 (s := by exact siQ) (h := ?_)); (refine tkQ 16 (s := by exact siQ) (h := ?_)); (refine tkQ 17 (s := by exact Stab.assign rfl) (h := ?_)); (refine TrA.done (by kernel_rfl) ?_))
  (repeat (first | ((with_reducible refine Tr.step rfl ?_); (with_reducible refine Knd.assign ?_); (refine xaQ (z := ?_))) | (with_reducible first | apply Tr.next | apply Tr.seq | apply Tr.region | apply Tr.nil | apply Tr.block)))
  refine Tr.loop (α := Nat × Int) (fun y => ⟨66, [(5, .int .i64 (y.1 : Int)), (4, .int .i64 (i : Int)), (3, .int .i64 y.2), (2, .bool false), (1, .pointer (some ⟨b, 0, none⟩))], [], M, box b 48 (.int .i64 p.kind :: .int .i64 a0 :: .int .i64 a1 :: .int .i64 a2 :: .int .i64 a3 :: .int .i64 a4 :: .int .i64 a5 :: .int .i64 a6 :: .slice A p.labels.length c :: .slice B p.verdicts.length d :: .slice C p.rels.length e :: byteV p.sl) :: ([] ++ F)⟩) (fun y => y.1 ≤ x.inn.length) (fun y => x.inn.length - y.1) (0, _) (by simp) hsQ (fun y hi2 => ?_)
  obtain ⟨k, n2⟩ := y
  dsimp only at hi2 ⊢
  by_cases hlt2 : k < x.inn.length
  rotate_left
  · (repeat (first | ((with_reducible refine Tr.step rfl ?_); (first | (refine xmQ (z := ?_)) | (refine xaQ (z := ?_)) | ((with_reducible refine Knd.load ?_); (first | (refine xlQ (z := ?_)) | (refine xMQ (z := ?_)))) | ((with_reducible refine Knd.fieldAddr ?_); (first | (refine xfQ (z := ?_)) | (refine Exec.stab rfl (Stab.fieldD rfl (tysOk.get rfl) rfl rfl (tysOk.get rfl) rfl) rfl ?_))) | (refine xnQ (z := ?_)) | ((with_reducible refine Knd.binOp ?_); (first | (refine xdQ (z := ?_)) | (refine xiQ (z := ?_)))) | (refine xxQ (z := ?_)))) | (with_reducible first | apply Tr.next | apply Tr.seq | apply Tr.region | apply Tr.nil | apply Tr.exit | apply Tr.then_exit | apply Tr.in_normal) | ((with_reducible refine Tr.in_exit ?_ ?_); (exact rfl)) | (refine Tr.cond_f rfl (by first | (with_reducible assumption) | (with_reducible rfl) | (with_reducible exact (not_not_intro rfl)) | omega) ?_)))
    refine Tr.again (i + 1, n2) (by simp only; omega) (by simp only; omega) hsQ
  obtain ⟨z, hz⟩ := get_of_lt hlt2
  obtain ⟨hB, ch2, hbt, A3, k3, rfl, hi3⟩ := hr2.elem hz
  (repeat (first | ((with_reducible refine Tr.step rfl ?_); (first | (refine xmQ (z := ?_)) | (refine xaQ (z := ?_)) | ((with_reducible refine Knd.load ?_); (first | (refine xlQ (z := ?_)) | (refine xMQ (z := ?_)))) | ((with_reducible refine Knd.fieldAddr ?_); (first | (refine xfQ (z := ?_)) | (refine Exec.stab rfl (Stab.fieldD rfl (tysOk.get rfl) rfl rfl (tysOk.get rfl) rfl) rfl ?_))) | (refine xnQ (z := ?_)) | ((with_reducible refine Knd.binOp ?_); (first | (refine xdQ (z := ?_)) | (refine xiQ (z := ?_)))) | (refine xxQ (z := ?_)))) | (with_reducible first | apply Tr.next | apply Tr.seq | apply Tr.region | apply Tr.nil | apply Tr.skip | apply Tr.block | apply Tr.in_normal) | (refine Tr.cond_t rfl (by first | (with_reducible assumption) | (with_reducible rfl) | (with_reducible exact (not_not_intro rfl)) | omega) ?_)))
  refine Tr.again (k + 1, _) (by simp only; omega) (by simp only; omega) hsQ
/-- what joined puts together: the bytes, and where each frame ends -/
def endsF (l : List Frm) : List Int := (List.range l.length).map fun i => ((flatF TF (l.take (i + 1))).length : Int)
theorem endsF_snoc (l : List Frm) (f : Frm) : endsF (l ++ [f]) = endsF l ++ [((flatF TF (l ++ [f])).length : Int)] := by
  unfold endsF
  rw [List.length_append, List.length_singleton, List.range_succ, List.map_append, List.map_singleton]
  congr 1
  · refine List.map_congr_left fun i hi => ?_
    have : i < l.length := List.mem_range.1 hi
    rw [List.take_append_of_le_length (by omega)]
  · rw [List.take_of_length_le (by simp)]
theorem flat_snoc (l : List Frm) (f : Frm) : flatF TF (l ++ [f]) = flatF TF l ++ encB TF f := by
  unfold flatF; rw [List.flatMap_append]; simp
def RJoin (M : Mem) (r : Value) (l : List Frm) : Prop := ∃ A a B b C c, r = .tuple #[.slice A (flatF TF l).length a, .slice B l.length b, .slice C (endsF l).length c] ∧
  BSl M (.slice A (flatF TF l).length a) (flatF TF l) ∧ RFrms M (.slice B l.length b) l ∧ Ints M (.slice C (endsF l).length c) (endsF l)
theorem filter_take {l : List Frm} {i : Nat} {x : Frm} (hx : l[i]? = some x) : (l.take (i + 1)).filter (fun f => decide (okF f)) = (l.take i).filter (fun f => decide (okF f)) ++ (if okF x then [x] else []) := by
  rw [List.take_add_one, hx, Option.toList_some, List.filter_append]
  by_cases h : okF x <;> simp [h]
theorem flat_le (l : List Frm) (h : ∀ f ∈ l, okF f) : (flatF TF l).length ≤ l.length * 65546 := by
  induction l with
  | nil => simp [flatF]
  | cons f l ih =>
    have h1 := ih fun x hx => h x (List.mem_cons_of_mem _ hx)
    have h2 := (h f List.mem_cons_self).2
    have h3 := encB_length TF_len f
    show (encB TF f ++ flatF TF l).length ≤ (l.length + 1) * 65546
    rw [List.length_append]
    omega
set_option maxHeartbeats 4000000 in
theorem joined_fn (M : Mem) (hK : Tab M) (l : List Frm) (A : Option Addr) (c : Nat) (hp : RFrms M (.slice A l.length c) l) (hl : l.length ≤ 3000) :
    Fn0 Tryd.prog 17 [.slice A l.length c] M (fun r M' => RJoin M' r (l.filter fun f => decide (okF f))) := by
  refine Fn.intro Tryd.func17 rfl rfl Tryd.ntmps17 rfl fun E F => ?_
  (repeat (first | ((with_reducible refine Tr.step rfl ?_); (with_reducible refine Knd.assign ?_); (refine xaQ (z := ?_))) | (with_reducible first | apply Tr.next | apply Tr.seq | apply Tr.region | apply Tr.nil | apply Tr.block)))
  refine Tr.own_nil 5 1 ?_
  refine Tr.own_nil 24 2 ?_
  refine Tr.own_nil 3 1 ?_
  refine Tr.loop (α := Nat × List Frm × Option Addr × Nat × Option Addr × Nat × List Value × Option Addr × Nat × Mem) (fun y => ⟨42, [(5, .int .i64 (y.1 : Int)), (4, .slice y.2.2.2.2.2.2.2.1 y.2.1.length y.2.2.2.2.2.2.2.2.1), (3, .slice y.2.2.2.2.1 y.2.1.length y.2.2.2.2.2.1), (2, .slice y.2.2.1 (flatF TF y.2.1).length y.2.2.2.1), (0, .slice A l.length c)], [], y.2.2.2.2.2.2.2.2.2,
      ownS 3 1 y.2.2.2.2.2.2.2.1 y.2.1.length y.2.2.2.2.2.2.2.2.1 (intV (endsF y.2.1)) :: ownS 24 2 y.2.2.2.2.1 y.2.1.length y.2.2.2.2.2.1 y.2.2.2.2.2.2.1 :: ownS 5 1 y.2.2.1 (flatF TF y.2.1).length y.2.2.2.1 (byteV (flatF TF y.2.1)) :: ([] ++ F)⟩)
    (fun y => y.1 ≤ l.length ∧ y.2.1 = (l.take y.1).filter (fun f => decide (okF f)) ∧ Mem.le M y.2.2.2.2.2.2.2.2.2 ∧ y.2.2.2.1 ≤ 9223372036854775807 ∧ y.2.2.2.2.2.1 ≤ 9223372036854775807 ∧ y.2.2.2.2.2.2.2.2.1 ≤ 9223372036854775807 ∧ Elems 2 RFrm y.2.2.2.2.2.2.2.2.2 y.2.2.2.2.2.2.1 y.2.1) (fun y => l.length - y.1)
    (0, [], none, 0, none, 0, [], none, 0, M) ⟨Nat.zero_le _, rfl, Mem.le.refl _, Nat.zero_le _, Nat.zero_le _, Nat.zero_le _, Elems.nil⟩ hsQ (fun y hy => ?_)
  obtain ⟨i, ys, A1, a1, B1, b1, cs, C1, c1, M1⟩ := y
  obtain ⟨hi, hys, hm1, ha, hb, hc, hE⟩ := hy
  dsimp only at hi hys hm1 ha hb hc hE ⊢
  have hyok : ∀ f ∈ ys, okF f := fun f hf => by rw [hys] at hf; exact of_decide_eq_true (List.mem_filter.1 hf).2
  have hyl : ys.length ≤ i := by
    rw [hys]
    refine Nat.le_trans (List.length_filter_le _ _) ?_
    rw [List.length_take]; omega
  have hfl := flat_le ys hyok
  have hel : (endsF ys).length = ys.length := by simp [endsF]
  by_cases hlt : i < l.length
  rotate_left
  · have e : l.filter (fun f => decide (okF f)) = ys := by rw [hys, List.take_of_length_le (by omega)]
    rw [e]
    refine pbQ (r := ownS 3 1 C1 _ _ _) (k := fun M2 hm2 hok2 => ?_)
    refine pbQ (r := ownS 24 2 B1 _ _ _) (k := fun M3 hm3 hok3 => ?_)
    refine pbQ (r := ownS 5 1 A1 _ _ _) (k := fun M4 hm4 hok4 => ?_)
    have hm14 := hm2.trans (hm3.trans hm4)
    have hm04 := hm1.trans hm14
    (repeat (first | ((with_reducible refine Tr.step rfl ?_); (first | (refine xmQ (z := ?_)) | (refine xaQ (z := ?_)) | (refine xnQ (z := ?_)) | (refine xiQ (z := ?_)))) | (with_reducible first | apply Tr.next | apply Tr.seq | apply Tr.region | apply Tr.nil | apply Tr.exit | apply Tr.ret | apply Tr.then_exit) | ((with_reducible refine Tr.in_exit ?_ ?_); (exact rfl)) | (refine Tr.cond_f rfl (by first | (with_reducible assumption) | (with_reducible rfl) | (with_reducible exact (not_not_intro rfl)) | omega) ?_)))
    (refine dnQ (hL := by exact ⟨[], rfl⟩) (k := ⟨rfl, ?_⟩))
    refine ⟨A1, a1, B1, b1, C1, c1, by rw [hel]; rfl, BSl.ofOwn hok4 rfl ha, (SlOf.ofOwn hok3 rfl hb (hE.mono RFrm.mono (hm2.trans hm3))).mono RFrm.mono hm4, ?_⟩
    exact (Ints.ofOwn hok2 hel.symm hc).mono RI.mono (hm3.trans hm4)
  obtain ⟨x, hx⟩ := get_of_lt hlt
  obtain ⟨hA, ch, hat, A2, k2, rfl, hb2, hk2⟩ := (hp.mono RFrm.mono hm1).elem hx
  have hft := filter_take hx
  rw [← hys] at hft
  (repeat (first | ((with_reducible refine Tr.step rfl ?_); (first | (refine xmQ (z := ?_)) | ((with_reducible refine Knd.load ?_); (refine Exec.stab rfl (Stab.loadMA rfl (tysOk.get rfl) rfl (by assumption) (by first | rfl | assumption)) rfl ?_)) | (refine xnQ (z := ?_)) | (refine xiQ (z := ?_)) | (refine xxQ (z := ?_)))) | (with_reducible first | apply Tr.next | apply Tr.seq | apply Tr.region | apply Tr.nil | apply Tr.skip | apply Tr.block) | (refine Tr.cond_t rfl (by first | (with_reducible assumption) | (with_reducible rfl) | (with_reducible exact (not_not_intro rfl)) | omega) ?_)))
  ((refine Tr.step rfl ?_)); refine Exec.call0 rfl (encode_fr M1 (hK.mono hm1) _ _ x hb2) rfl ?_
  rintro r M2 hm2 ⟨A3, k3, rfl, hb3⟩
  have hm02 := hm1.trans hm2
  by_cases hok : okF x
  rotate_left
  · have e : encFr x = ([], 470) := by rw [encFr, if_neg hok]
    rw [e]
    rw [if_neg hok, List.append_nil] at hft
    (repeat (first | ((with_reducible refine Tr.step rfl ?_); (first | (refine xmQ (z := ?_)) | (refine xaQ (z := ?_)) | ((with_reducible refine Knd.binOp ?_); (first | (refine xdQ (z := ?_)) | (refine xiQ (z := ?_)))) | ((with_reducible refine Knd.extract ?_); (refine Exec.stab rfl (Stab.extract rfl rfl) rfl ?_)))) | (with_reducible first | apply Tr.next | apply Tr.seq | apply Tr.region | apply Tr.nil | apply Tr.skip | apply Tr.in_normal) | (refine Tr.cond_f rfl (by first | (with_reducible assumption) | (with_reducible rfl) | (with_reducible exact (not_not_intro rfl)) | omega) ?_)))
    refine Tr.again (i + 1, ys, A1, a1, B1, b1, cs, C1, c1, M2) ⟨by simp only; omega, hft.symm, hm02, ha, hb, hc, hE.mono RFrm.mono hm2⟩ (by simp only; omega) hsQ
  have e : encFr x = (encB TF x, 0) := by rw [encFr, if_pos hok]
  rw [e] at hb3 ⊢
  rw [if_pos hok] at hft
  simp only at hb3 ⊢
  have hcap3 := hb3.cap
  have hex := encB_length TF_len x
  have hxl := hok.2
  replace hat := hat.mono hm2
  (repeat (first | ((with_reducible refine Tr.step rfl ?_); (first | (refine xmQ (z := ?_)) | (refine xaQ (z := ?_)) | (refine xiQ (z := ?_)) | ((with_reducible refine Knd.extract ?_); (refine Exec.stab rfl (Stab.extract rfl rfl) rfl ?_)))) | (with_reducible first | apply Tr.next | apply Tr.seq | apply Tr.region | apply Tr.nil) | (refine Tr.cond_t rfl (by first | (with_reducible assumption) | (with_reducible rfl) | (with_reducible exact (not_not_intro rfl)) | omega) ?_)))
  ((refine Tr.step rfl ?_))
  refine Exec.append (news := byteV (encB TF x)) rfl rfl (tysOk.get rfl) rfl (tysOk.get rfl) rfl rfl rfl rfl (by repeat (first | exact Del.here | apply Del.there)) (Src.row hcap3.2.2.2) (by simp) (byteV_one _) (by omega) (by omega) rfl (fun A4 a4 ha4 => ?_)
  rw [← byteV_append, ← flat_snoc, show (flatF TF ys).length + (encB TF x).length = (flatF TF (ys ++ [x])).length by rw [flat_snoc, List.length_append]]
  (repeat (first | ((with_reducible refine Tr.step rfl ?_); (first | (refine xmQ (z := ?_)) | (refine xaQ (z := ?_)) | ((with_reducible refine Knd.load ?_); (refine Exec.stab rfl (Stab.loadMA rfl (tysOk.get rfl) rfl (by assumption) (by first | rfl | assumption)) rfl ?_)) | (refine xxQ (z := ?_)) | ((with_reducible refine Knd.buildSlice ?_); (refine Exec.buildSlice (tysOk.get rfl) rfl (tysOk.get rfl) rfl rfl rfl rfl rfl (by repeat (first | exact BuildP.nil | ((apply BuildP.one); (rfl); (rfl); (first | rfl | assumption); (repeat (first | exact SetL.z | apply SetL.s))) | ((apply BuildP.many); (rfl); (rfl); (rfl); (rfl); (repeat (first | exact PutL.nil | ((apply PutL.cons); (repeat (first | exact SetL.z | apply SetL.s)))))))) rfl (fun b => ?_))))) | (with_reducible first | apply Tr.next | apply Tr.seq | apply Tr.region | apply Tr.nil)))
  ((refine Tr.step rfl ?_))
  refine Exec.append (A := B1) (news := [.int .i64 x.kind, .slice A2 x.body.length k2]) rfl rfl (tysOk.get rfl) rfl (tysOk.get rfl) rfl rfl rfl rfl (by repeat (first | exact Del.here | apply Del.there)) (Src.box (by repeat (first | exact Has.here | apply Has.there))) rfl (by intro u hu; simp at hu; rcases hu with rfl | rfl <;> rfl) (by omega) (by omega) rfl (fun B4 b4 hb4 => ?_)
  refine gvQ (r := box _ 24 [_, _]) (k := ?_)
  (repeat (first | ((with_reducible refine Tr.step rfl ?_); (first | (refine xmQ (z := ?_)) | (refine xaQ (z := ?_)) | (refine xnQ (z := ?_)) | ((with_reducible refine Knd.buildSlice ?_); (refine Exec.buildSlice (tysOk.get rfl) rfl (tysOk.get rfl) rfl rfl rfl rfl rfl (by repeat (first | exact BuildP.nil | ((apply BuildP.one); (rfl); (rfl); (first | rfl | assumption); (repeat (first | exact SetL.z | apply SetL.s))) | ((apply BuildP.many); (rfl); (rfl); (rfl); (rfl); (repeat (first | exact PutL.nil | ((apply PutL.cons); (repeat (first | exact SetL.z | apply SetL.s)))))))) rfl (fun b => ?_))))) | (with_reducible first | apply Tr.next | apply Tr.region | apply Tr.nil)))
  ((refine Tr.step rfl ?_))
  refine Exec.append (A := C1) (news := [.int .i64 ((flatF TF (ys ++ [x])).length : Int)]) rfl rfl (tysOk.get rfl) rfl (tysOk.get rfl) rfl rfl rfl rfl (by repeat (first | exact Del.here | apply Del.there)) (Src.box (by repeat (first | exact Has.here | apply Has.there))) rfl (by intro u hu; simp at hu; subst hu; rfl) (by omega) (by omega) rfl (fun C4 c4 hc4 => ?_)
  refine gvQ (r := box _ 3 [_]) (k := ?_)
  have e5 : intV (endsF ys) ++ [Value.int .i64 ((flatF TF (ys ++ [x])).length : Int)] = intV (endsF (ys ++ [x])) := by rw [endsF_snoc, intV_append]; rfl
  rw [e5, show ys.length + 1 = (ys ++ [x]).length by rw [List.length_append, List.length_singleton]]
  (repeat (first | ((with_reducible refine Tr.step rfl ?_); (first | (refine xmQ (z := ?_)) | (refine xaQ (z := ?_)) | (refine xdQ (z := ?_)))) | (with_reducible first | apply Tr.next | apply Tr.region | apply Tr.nil | apply Tr.in_normal)))
  refine Tr.again (i + 1, ys ++ [x], A4, a4, B4, b4, cs ++ [.int .i64 x.kind, .slice A2 x.body.length k2], C4, c4, M2) ⟨by simp only; omega, hft.symm, hm02, ha4, hb4, hc4, (hE.mono RFrm.mono hm2).append (Elems.one rfl ⟨A2, k2, rfl, hb2.mono hm2, hk2⟩)⟩ (by simp only; omega) hsQ
end Go.Proofs.YtghjhdbmkilakaaDoor

/-
  Frames: the law FramesWhole.
  Conditions: none.
-/
namespace Go.Proofs.YtghjhdbmkilakaaDoor
open Go Bf
attribute [local irreducible] Tr Exec Stab HasTy Go.Addr.add IntKind.wrap
attribute [local irreducible] encFr readF scanF TF flatF
theorem filter_all {l : List Frm} (h : ∀ f ∈ l, okF f) : l.filter (fun f => decide (okF f)) = l := List.filter_eq_self.2 fun f hf => decide_eq_true (h f hf)
theorem read_len (bs : List UInt8) : (readF TF bs).1.length ≤ bs.length := by
  obtain ⟨-, h2, -, -, -, h6⟩ := read_spec (T := TF) bs.length bs (Nat.le_refl _)
  have : ∀ l : List Frm, l.length ≤ (l.map fun f => f.body.length + 10).sum := by
    intro l
    induction l with
    | nil => simp
    | cons f l ih => simp only [List.length_cons, List.map_cons, List.sum_cons]; omega
  have := this (readF TF bs).1
  omega
set_option maxHeartbeats 4000000 in
theorem law5_fn (M : Mem) (hK : Tab M) (B : Option Addr) (k : Nat) (bs : List UInt8) (hb : BSl M (.slice B bs.length k) bs) :
    Fn0 Tryd.prog 5 [.slice B bs.length k] M (fun r _ => r = .bool true) := by
  have hbl := hb.len_le
  refine Fn.intro Tryd.func5 rfl rfl Tryd.ntmps5 rfl fun E F => ?_
  (repeat (first | ((with_reducible refine Tr.step rfl ?_); (with_reducible refine Knd.assign ?_); (refine xaQ (z := ?_))) | (with_reducible first | apply Tr.next | apply Tr.seq | apply Tr.region | apply Tr.nil)))
  ((refine Tr.step rfl ?_)); refine Exec.call0 rfl (sane_fn M hK) rfl ?_
  rintro _ M1 hm1 rfl
  replace hb := hb.mono hm1
  replace hK := hK.mono hm1
  by_cases h1 : bs.length ≤ 3000
  case neg =>
    (repeat (first | ((with_reducible refine Tr.step rfl ?_); (first | (refine xmQ (z := ?_)) | (refine xaQ (z := ?_)) | (refine xnQ (z := ?_)) | (refine xiQ (z := ?_)) | ((with_reducible refine Knd.unOp ?_); (refine Exec.stab rfl (Stab.not rfl) rfl ?_)))) | (with_reducible first | apply Tr.next | apply Tr.seq | apply Tr.region | apply Tr.nil | apply Tr.skip | apply Tr.ret | apply Tr.then_ret) | (refine Tr.cond_bf rfl (by first | (with_reducible rfl) | (with_reducible assumption) | (with_reducible exact Bool.not_true) | (with_reducible exact Bool.not_false)) ?_) | (refine Tr.cond_t rfl (by first | (with_reducible assumption) | (with_reducible rfl) | (with_reducible exact (not_not_intro rfl)) | omega) ?_)))
    (refine dnQ (hL := by exact ⟨[], rfl⟩) (k := ⟨rfl, ?_⟩))
    rfl
  obtain ⟨q1, q2, q3, q4, q5, q6⟩ := read_spec (T := TF) bs.length bs (Nat.le_refl _)
  have q7 := read_len bs
  have q8 : readF TF (bs.drop (readF TF bs).2) = ([], 0) := read_none q4
  (repeat (first | ((with_reducible refine Tr.step rfl ?_); (first | (refine xmQ (z := ?_)) | (refine xnQ (z := ?_)) | (refine xiQ (z := ?_)) | ((with_reducible refine Knd.unOp ?_); (refine Exec.stab rfl (Stab.not rfl) rfl ?_)))) | (with_reducible first | apply Tr.next | apply Tr.seq | apply Tr.region | apply Tr.nil | apply Tr.skip) | (refine Tr.cond_bf rfl (by first | (with_reducible rfl) | (with_reducible assumption) | (with_reducible exact Bool.not_true) | (with_reducible exact Bool.not_false)) ?_) | (refine Tr.cond_f rfl (by first | (with_reducible assumption) | (with_reducible rfl) | (with_reducible exact (not_not_intro rfl)) | omega) ?_)))
  ((refine Tr.step rfl ?_)); refine Exec.call0 rfl (read_fn M1 hK B k bs hb (by omega)) rfl ?_
  rintro _ M2 hm2 ⟨A4, c4, A5, c5, rfl, hl4, hr4⟩
  replace hb := hb.mono hm2
  replace hK := hK.mono hm2
  generalize readF TF bs = p at *
  obtain ⟨l, n⟩ := p
  dsimp only at *
  have hfl := filter_all q1
  (repeat (first | ((with_reducible refine Tr.step rfl ?_); (first | (refine xmQ (z := ?_)) | (refine xaQ (z := ?_)) | ((with_reducible refine Knd.extract ?_); (refine Exec.stab rfl (Stab.extract rfl rfl) rfl ?_)))) | (with_reducible first | apply Tr.next | apply Tr.seq | apply Tr.region | apply Tr.nil)))
  ((refine Tr.step rfl ?_)); refine Exec.call0 rfl (joined_fn M2 hK l A4 c4 hl4 (by omega)) rfl ?_
  rintro _ M3 hm3 ⟨A6, c6, A7, c7, A8, c8, rfl, hx, hl7, hi8⟩
  rw [hfl] at hx hl7 hi8
  rw [hfl]
  rw [q3] at hx
  rw [q3]
  replace hb := hb.mono hm3
  replace hK := hK.mono hm3
  replace hr4 := hr4.mono hm3
  (repeat (first | ((with_reducible refine Tr.step rfl ?_); (first | (refine xmQ (z := ?_)) | (refine xaQ (z := ?_)) | ((with_reducible refine Knd.extract ?_); (refine Exec.stab rfl (Stab.extract rfl rfl) rfl ?_)))) | (with_reducible first | apply Tr.next | apply Tr.seq | apply Tr.region | apply Tr.nil)))
  ((refine Tr.step rfl ?_)); refine Exec.call0 rfl (read_fn M3 hK A5 c5 _ hr4 (by rw [List.length_drop]; omega)) rfl ?_
  rintro _ M4 hm4 hR
  rw [RRead, q8] at hR
  dsimp only [List.drop_zero, List.length_nil] at hR
  obtain ⟨A9, c9, A10, c10, rfl, hl9, hr9⟩ := hR
  have hln : (bs.take n).length + (bs.drop n).length ≤ 9223372036854775807 := by rw [← List.length_append, List.take_append_drop]; exact hbl
  replace hb := hb.mono hm4
  replace hr4 := hr4.mono hm4
  replace hx := hx.mono hm4
  (repeat (first | ((with_reducible refine Tr.step rfl ?_); (first | (refine xmQ (z := ?_)) | (refine xaQ (z := ?_)) | (refine xnQ (z := ?_)) | (refine xiQ (z := ?_)) | ((with_reducible refine Knd.pick ?_); (refine Exec.stab rfl (Stab.pick_td rfl (by first | (with_reducible assumption) | (with_reducible rfl) | (with_reducible exact (not_not_intro rfl)) | omega) rfl) rfl ?_)) | ((with_reducible refine Knd.extract ?_); (refine Exec.stab rfl (Stab.extract rfl rfl) rfl ?_)))) | (with_reducible first | apply Tr.next | apply Tr.seq | apply Tr.region | apply Tr.nil) | ((refine Tr.guard_y rfl rfl rfl (by first | (with_reducible assumption) | (with_reducible rfl) | (with_reducible exact (not_not_intro rfl)) | omega) ?_); (first | (refine xmQ (z := ?_)) | ((with_reducible refine Knd.binOp ?_); (first | (refine Exec.stab rfl (Stab.strcat rfl rfl (by assumption)) rfl ?_) | (refine Exec.stab rfl (Stab.streq rfl rfl) rfl ?_))) | ((with_reducible refine Knd.convert ?_); (refine Exec.stab rfl (Stab.bstrB rfl (tysOk.get rfl) (tysOk.get rfl) rfl rfl (tysOk.get rfl) rfl (by assumption)) rfl ?_))))))
  rw [List.take_append_drop]
  rw [List.drop_zero]
  (repeat (first | ((with_reducible refine Tr.step rfl ?_); (first | (refine xmQ (z := ?_)) | (refine xaQ (z := ?_)) | ((with_reducible refine Knd.pick ?_); (refine Exec.stab rfl (Stab.pick_td rfl (by first | (with_reducible assumption) | (with_reducible rfl) | (with_reducible exact (not_not_intro rfl)) | omega) rfl) rfl ?_)))) | (with_reducible first | apply Tr.next | apply Tr.nil) | ((refine Tr.guard_y rfl rfl rfl (by first | (with_reducible assumption) | (with_reducible rfl) | (with_reducible exact (not_not_intro rfl)) | omega) ?_); (first | (refine xmQ (z := ?_)) | (refine xnQ (z := ?_)) | ((with_reducible refine Knd.binOp ?_); (first | (refine xiQ (z := ?_)) | (refine Exec.stab rfl (Stab.streq rfl rfl) rfl ?_))) | ((with_reducible refine Knd.convert ?_); (refine Exec.stab rfl (Stab.bstrB rfl (tysOk.get rfl) (tysOk.get rfl) rfl rfl (tysOk.get rfl) rfl (by assumption)) rfl ?_)))) | (with_reducible refine Tr.ret ?_)))
  have hmm : M.le M4 := hm1.trans (hm2.trans (hm3.trans hm4))
  (refine dnQ (hL := by exact ⟨[], rfl⟩) (k := ⟨rfl, ?_⟩))
  rw [List.drop_zero, decide_eq_true rfl]
  rfl
end Go.Proofs.YtghjhdbmkilakaaDoor

/-
  Frames: the law FramesBack.
  Conditions: none.
-/
namespace Go.Proofs.YtghjhdbmkilakaaDoor
open Go Bf
attribute [local irreducible] Tr Exec Stab HasTy Go.Addr.add IntKind.wrap
attribute [local irreducible] encFr readF scanF TF flatF
theorem endsF_at {v : List Frm} {i : Nat} (h : i < v.length) : (endsF v)[i]? = some (((flatF TF (v.take (i + 1))).length : Nat) : Int) := by
  simp [endsF, h]
theorem endsF_len (v : List Frm) : (endsF v).length = v.length := by simp [endsF]
set_option maxHeartbeats 4000000 in
theorem law4_fn (M : Mem) (hK : Tab M) (B : Option Addr) (k : Nat) (l : List Frm) (cut : Nat) (hcut : cut < 18446744073709551616) (hb : RFrms M (.slice B l.length k) l) :
    Fn0 Tryd.prog 4 [.slice B l.length k, .int .u64 cut] M (fun r _ => r = .bool true) := by
  have hbl := hb.len_le
  refine Fn.intro Tryd.func4 rfl rfl Tryd.ntmps4 rfl fun E F => ?_
  (repeat (first | ((with_reducible refine Tr.step rfl ?_); (with_reducible refine Knd.assign ?_); (refine xaQ (z := ?_))) | (with_reducible first | apply Tr.next | apply Tr.seq | apply Tr.region | apply Tr.nil)))
  ((refine Tr.step rfl ?_)); refine Exec.call0 rfl (sane_fn M hK) rfl ?_
  rintro _ M1 hm1 rfl
  replace hb := RFrms.up hb hm1
  replace hK := hK.mono hm1
  (repeat (first | ((with_reducible refine Tr.step rfl ?_); (first | (refine xmQ (z := ?_)) | ((with_reducible refine Knd.unOp ?_); (refine Exec.stab rfl (Stab.not rfl) rfl ?_)))) | (with_reducible first | apply Tr.next | apply Tr.seq | apply Tr.region | apply Tr.nil | apply Tr.skip) | (refine Tr.cond_bf rfl (by first | (with_reducible rfl) | (with_reducible assumption) | (with_reducible exact Bool.not_true) | (with_reducible exact Bool.not_false)) ?_)))
  ((refine Tr.step rfl ?_)); refine Exec.call0 rfl (fewFrames_fn M1 l B k hb) rfl ?_
  rintro _ M2 hm2 ⟨⟨b, rfl, hl8⟩, rfl⟩
  cases b with
  | false =>
    (repeat (first | ((with_reducible refine Tr.step rfl ?_); (first | (refine xaQ (z := ?_)) | ((with_reducible refine Knd.unOp ?_); (refine Exec.stab rfl (Stab.not rfl) rfl ?_)))) | (with_reducible first | apply Tr.next | apply Tr.seq | apply Tr.region | apply Tr.nil | apply Tr.ret | apply Tr.then_ret) | (refine Tr.cond_bt rfl (by first | (with_reducible rfl) | (with_reducible assumption) | (with_reducible exact Bool.not_true) | (with_reducible exact Bool.not_false)) ?_)))
    (refine dnQ (hL := by exact ⟨[], rfl⟩) (k := ⟨rfl, ?_⟩))
    rfl
  | true =>
  replace hl8 := hl8 rfl
  (repeat (first | ((with_reducible refine Tr.step rfl ?_); (first | (refine xmQ (z := ?_)) | ((with_reducible refine Knd.unOp ?_); (refine Exec.stab rfl (Stab.not rfl) rfl ?_)))) | (with_reducible first | apply Tr.next | apply Tr.seq | apply Tr.region | apply Tr.nil | apply Tr.skip) | (refine Tr.cond_bf rfl (by first | (with_reducible rfl) | (with_reducible assumption) | (with_reducible exact Bool.not_true) | (with_reducible exact Bool.not_false)) ?_)))
  ((refine Tr.step rfl ?_)); refine Exec.call0 rfl (joined_fn M1 hK l B k hb (by omega)) rfl ?_
  rintro _ M3 hm3 ⟨A3, c3, A4, c4, A5, c5, rfl, hx, hl4, hi5⟩
  replace hK := hK.mono hm3
  have hvok : ∀ f ∈ l.filter (fun f => decide (okF f)), okF f := fun f hf => of_decide_eq_true (List.mem_filter.1 hf).2
  have hvl : (l.filter (fun f => decide (okF f))).length ≤ 8 := Nat.le_trans (List.length_filter_le _ _) hl8
  generalize l.filter (fun f => decide (okF f)) = v at *
  have hfl := flat_le v hvok
  have hall := read_all TF_len hvok
  have hcutT := read_cut TF_len v hvok
  generalize hbv : flatF TF v = bs at *
  have hel := endsF_len v
  (repeat (first | ((with_reducible refine Tr.step rfl ?_); (first | (refine xmQ (z := ?_)) | (refine xaQ (z := ?_)) | ((with_reducible refine Knd.extract ?_); (refine Exec.stab rfl (Stab.extract rfl rfl) rfl ?_)))) | (with_reducible first | apply Tr.next | apply Tr.seq | apply Tr.region | apply Tr.nil)))
  ((refine Tr.step rfl ?_)); refine Exec.call0 rfl (read_fn M3 hK A3 c3 bs hx (by omega)) rfl ?_
  rintro _ M4 hm4 hR
  rw [RRead, hall] at hR
  obtain ⟨A6, c6, A7, c7, rfl, hl6, hr7⟩ := hR
  dsimp only at hl6 hr7 ⊢
  replace hx := hx.mono hm4
  replace hK := hK.mono hm4
  replace hl4 := RFrms.up hl4 hm4
  replace hi5 := hi5.mono RI.mono hm4
  (repeat (first | ((with_reducible refine Tr.step rfl ?_); (first | (refine xmQ (z := ?_)) | (refine xaQ (z := ?_)) | ((with_reducible refine Knd.extract ?_); (refine Exec.stab rfl (Stab.extract rfl rfl) rfl ?_)))) | (with_reducible first | apply Tr.next | apply Tr.seq | apply Tr.region | apply Tr.nil)))
  ((refine Tr.step rfl ?_)); refine Exec.call0 rfl (rsameFrames_fn M4 _ _ _ _ _ _ hl6 hl4) rfl ?_
  rintro _ _ _ ⟨rfl, rfl⟩
  rw [decide_eq_true rfl]
  have hd0 : (bs.drop bs.length).length = 0 := by simp
  (repeat (first | ((with_reducible refine Tr.step rfl ?_); (first | (refine xmQ (z := ?_)) | (refine xaQ (z := ?_)) | (refine xnQ (z := ?_)) | ((with_reducible refine Knd.binOp ?_); (first | (refine xdQ (z := ?_)) | (refine Exec.stab rfl (Stab.remp rfl rfl (by omega) (by omega)) rfl ?_))) | ((with_reducible refine Knd.pick ?_); (refine Exec.stab rfl (Stab.pick_f rfl (by first | (with_reducible rfl) | (with_reducible assumption) | (with_reducible exact Bool.not_true) | (with_reducible exact Bool.not_false)) rfl) rfl ?_)) | ((with_reducible refine Knd.unOp ?_); (refine Exec.stab rfl (Stab.not rfl) rfl ?_)) | ((with_reducible refine Knd.convert ?_); (first | (refine Exec.stab rfl (Stab.convu64 rfl (tysOk.get rfl) (tysOk.get rfl) rfl rfl (by omega)) rfl ?_) | (refine Exec.stab rfl (Stab.conv rfl (tysOk.get rfl) (tysOk.get rfl) rfl rfl) rfl ?_))))) | (with_reducible first | apply Tr.next | apply Tr.seq | apply Tr.region | apply Tr.nil) | ((refine Tr.guard_l rfl rfl rfl (by first | (with_reducible rfl) | (with_reducible assumption) | (with_reducible exact Bool.not_true) | (with_reducible exact Bool.not_false)) ?_); (first | (refine xmQ (z := ?_)) | (refine xnQ (z := ?_)) | (refine xiQ (z := ?_)))) | (with_reducible first | apply Tr.skip | apply Tr.block) | (refine Tr.cond_f rfl (by first | (with_reducible assumption) | (with_reducible rfl) | (with_reducible exact (not_not_intro rfl)) | omega) ?_)))
  have hlt64 : bs.length ≤ 524368 := by omega
  have hkk : cut % (bs.length + 1) ≤ bs.length := by have := Nat.mod_lt cut (show 0 < bs.length + 1 by omega); omega
  have hw : IntKind.i64.wrap ((cut : Int) % ((bs.length : Int) + 1)) = ((cut % (bs.length + 1) : Nat) : Int) := by
    have e : (cut : Int) % ((bs.length : Int) + 1) = ((cut % (bs.length + 1) : Nat) : Int) := by rw [Int.natCast_emod, Int.natCast_add]; rfl
    rw [e]
    exact wraps_i64 _ (by omega) (by omega)
  rw [hw]
  clear hw
  generalize cut % (bs.length + 1) = kk at *
  refine Tr.loop (α := Nat × Nat) (fun y => ⟨87, [(12, .int .i64 (y.2 : Int)), (11, .int .i64 (y.1 : Int)), (10, .int .i64 (kk : Int)), (7, .slice A5 (endsF v).length c5), (6, .slice A4 v.length c4), (5, .slice A3 bs.length c3), (4, .bool false)], [], M4, [] ++ F⟩) (fun y => y.1 ≤ v.length ∧ (flatF TF (v.take y.1)).length ≤ kk ∧ y.2 = (flatF TF (v.take y.1)).length) (fun y => v.length - y.1) (0, 0) (by rw [List.take_zero, flatF]; simp) hsQ (fun y hi => ?_)
  obtain ⟨i, en⟩ := y
  obtain ⟨hi, hik, he⟩ := hi
  dsimp only at hi hik he ⊢
  by_cases hlt : i < v.length
  · have hx1 := endsF_at hlt
    obtain ⟨hA, hat⟩ := Ints.at hi5 hx1
    by_cases hle : (flatF TF (v.take (i + 1))).length ≤ kk
    · (repeat (first | ((with_reducible refine Tr.step rfl ?_); (first | (refine xmQ (z := ?_)) | (refine xaQ (z := ?_)) | (refine xMQ (z := ?_)) | (refine xnQ (z := ?_)) | ((with_reducible refine Knd.binOp ?_); (first | (refine xdQ (z := ?_)) | (refine xiQ (z := ?_)))) | ((with_reducible refine Knd.pick ?_); (refine Exec.stab rfl (Stab.pick_td rfl (by first | (with_reducible assumption) | (with_reducible rfl) | (with_reducible exact (not_not_intro rfl)) | omega) rfl) rfl ?_)) | (refine xxQ (z := ?_)))) | (with_reducible first | apply Tr.next | apply Tr.seq | apply Tr.region | apply Tr.nil) | ((refine Tr.guard_y rfl rfl rfl (by first | (with_reducible assumption) | (with_reducible rfl) | (with_reducible exact (not_not_intro rfl)) | omega) ?_); (first | (refine xmQ (z := ?_)) | (refine xMQ (z := ?_)) | (refine xiQ (z := ?_)) | (refine xxQ (z := ?_)))) | (with_reducible first | apply Tr.skip | apply Tr.block | apply Tr.in_normal) | (refine Tr.cond_t rfl (by first | (with_reducible assumption) | (with_reducible rfl) | (with_reducible exact (not_not_intro rfl)) | omega) ?_)))
      refine Tr.again (i + 1, (flatF TF (v.take (i + 1))).length) ⟨by simp only; omega, hle, rfl⟩ (by simp only; omega) hsQ
    · have hnx : i < v.length → kk < (flatF TF (v.take (i + 1))).length := fun _ => by omega
      have e1 : (v.take i).length = i := by rw [List.length_take]; omega
      have hR2 := hcutT kk i (by omega) hik hnx hkk
      have hlt : (bs.take kk).length = kk := by rw [List.length_take]; omega
      have hpre := hx.pre (k := kk) (m := c3) hkk (by have := hx.cap; omega) (Nat.le_refl _)
      have hcall := read_fn M4 hK A3 c3 (bs.take kk) (by rw [hlt]; exact hpre) (by omega)
      rw [hlt] at hcall
      have hxc := hx.cap
      have hvc : v.length ≤ c4 := by have := hl4.cells; omega
      (repeat (first | ((with_reducible refine Tr.step rfl ?_); (first | (refine xmQ (z := ?_)) | (refine xnQ (z := ?_)) | (refine xiQ (z := ?_)) | ((with_reducible refine Knd.pick ?_); (refine Exec.stab rfl (Stab.pick_td rfl (by first | (with_reducible assumption) | (with_reducible rfl) | (with_reducible exact (not_not_intro rfl)) | omega) rfl) rfl ?_)) | ((with_reducible refine Knd.slice ?_); (refine Exec.stab rfl (Stab.slice_h rfl rfl (tysOk.get rfl) rfl (tysOk.get rfl) (by omega) (by omega)) rfl ?_)))) | (with_reducible first | apply Tr.next | apply Tr.seq | apply Tr.region | apply Tr.nil) | ((refine Tr.guard_y rfl rfl rfl (by first | (with_reducible assumption) | (with_reducible rfl) | (with_reducible exact (not_not_intro rfl)) | omega) ?_); (first | (refine xmQ (z := ?_)) | (refine xMQ (z := ?_)) | (refine xiQ (z := ?_)) | (refine xxQ (z := ?_)))) | (with_reducible first | apply Tr.exit | apply Tr.then_exit) | ((with_reducible refine Tr.in_exit ?_ ?_); (exact rfl)) | (refine Tr.cond_f rfl (by first | (with_reducible assumption) | (with_reducible rfl) | (with_reducible exact (not_not_intro rfl)) | omega) ?_)))
      ((refine Tr.step rfl ?_)); refine Exec.call0 rfl (hcall) rfl ?_
      rintro _ M5 hm5 hR
      rw [RRead, hR2] at hR
      obtain ⟨A8, c8, A9, c9, rfl, hl8', hr9⟩ := hR
      dsimp only at hl8' hr9 ⊢
      have hv5 := hl4.pre (k := i) (m := c4) (by omega) (by have := hl4.cells; omega) (Nat.le_refl _)
      rw [e1] at hl8' ⊢
      have hcall2 := rsameFrames_fn M5 (v.take i) (v.take i) A8 A4 c8 c4 (by rw [e1]; exact hl8') (by rw [e1]; exact RFrms.up hv5 hm5)
      rw [e1] at hcall2
      have hsub := (hx.mono hm5).sub (l := en) (k := kk) (m := c3) (by omega) hkk (by omega) (Nat.le_refl _)
      rw [← List.drop_take] at hsub
      rw [← he] at hr9 ⊢
      (repeat (first | ((with_reducible refine Tr.step rfl ?_); (first | (refine xmQ (z := ?_)) | (refine xaQ (z := ?_)) | ((with_reducible refine Knd.extract ?_); (refine Exec.stab rfl (Stab.extract rfl rfl) rfl ?_)))) | (with_reducible first | apply Tr.next | apply Tr.seq | apply Tr.nil)))
      (((apply Tr.draw); (kernel_rfl)); (refine tkQ 0 (hB := by exact fun _ h => h) (s := by exact Stab.move rfl) (h := ?_)); (refine tkQ 1 (s := by exact Stab.move rfl) (h := ?_)); (refine tkQ 2 (s := by exact Stab.move rfl) (h := ?_)); (refine tkQ 3 (s := by exact Stab.slice_h rfl rfl (tysOk.get rfl) rfl (tysOk.get rfl) (by omega) (by omega)) (h := ?_)); (refine TrA.eff 4 rfl (by kernel_rfl) (by first | exact .inl rfl | exact .inr ⟨_, _, _, rfl, rfl, rfl⟩) ?_))
      refine Exec.call0 rfl hcall2 rfl ?_
      rintro _ _ _ ⟨rfl, rfl⟩
      refine ⟨Mem.le.refl _, (by exact fun _ h => h), ?_⟩
      rw [decide_eq_true rfl]
      ((refine tkQ 5 (s := by exact Stab.move rfl) (h := ?_)); ((refine tgQ 6 (q := (by first | (with_reducible rfl) | (with_reducible assumption) | (with_reducible exact Bool.not_true) | (with_reducible exact Bool.not_false))) (s := by exact Stab.move rfl) (h := ?_))); ((refine tgQ 8 (q := (by first | (with_reducible rfl) | (with_reducible assumption) | (with_reducible exact Bool.not_true) | (with_reducible exact Bool.not_false))) (s := by exact Stab.move rfl) (h := ?_))); ((refine tgQ 9 (q := (by first | (with_reducible rfl) | (with_reducible assumption) | (with_reducible exact Bool.not_true) | (with_reducible exact Bool.not_false))) (s := by exact Stab.move rfl) (h := ?_))); ((refine tgQ 10 (q := (by first | (with_reducible rfl) | (with_reducible assumption) | (with_reducible exact Bool.not_true) | (with_reducible exact Bool.not_false))) (s := by exact Stab.move rfl) (h := ?_))); ((refine tgQ 7 (q := (by first | (with_reducible rfl) | (with_reducible assumption) | (with_reducible exact Bool.not_true) | (with_reducible exact Bool.not_false))) (s := by exact Stab.bstrB rfl (tysOk.get rfl) (tysOk.get rfl) rfl rfl (tysOk.get rfl) rfl (by assumption)) (h := ?_))); ((refine tgQ 11 (q := (by first | (with_reducible rfl) | (with_reducible assumption) | (with_reducible exact Bool.not_true) | (with_reducible exact Bool.not_false))) (s := by exact Stab.slice_lh rfl rfl rfl (tysOk.get rfl) rfl (tysOk.get rfl) rfl (by omega) (by omega) (by omega)) (h := ?_))))
      (((refine tgQ 12 (q := (by first | (with_reducible rfl) | (with_reducible assumption) | (with_reducible exact Bool.not_true) | (with_reducible exact Bool.not_false))) (s := by exact Stab.bstrB rfl (tysOk.get rfl) (tysOk.get rfl) rfl rfl (tysOk.get rfl) rfl (by assumption)) (h := ?_))); ((refine tgQ 13 (q := (by first | (with_reducible rfl) | (with_reducible assumption) | (with_reducible exact Bool.not_true) | (with_reducible exact Bool.not_false))) (s := by exact Stab.streq rfl rfl) (h := ?_))))
      rw [decide_eq_true rfl]
      ((refine tkQ 14 (s := by exact Stab.pick_t rfl (by first | (with_reducible rfl) | (with_reducible assumption) | (with_reducible exact Bool.not_true) | (with_reducible exact Bool.not_false)) rfl) (h := ?_)); (refine tkQ 15 (s := by exact Stab.assign rfl) (h := ?_)); (refine TrA.done (by kernel_rfl) ?_))
      (repeat (first | (with_reducible first | apply Tr.next | apply Tr.ret)))
      have hmm : M.le M5 := hm1.trans (hm3.trans (hm4.trans hm5))
      (refine dnQ (hL := by exact ⟨[], rfl⟩) (k := ⟨rfl, ?_⟩))
      rfl
  · have hnx : i < v.length → kk < (flatF TF (v.take (i + 1))).length := fun h => absurd h hlt
    have e1 : (v.take i).length = i := by rw [List.length_take]; omega
    have hR2 := hcutT kk i (by omega) hik hnx hkk
    have hlt : (bs.take kk).length = kk := by rw [List.length_take]; omega
    have hpre := hx.pre (k := kk) (m := c3) hkk (by have := hx.cap; omega) (Nat.le_refl _)
    have hcall := read_fn M4 hK A3 c3 (bs.take kk) (by rw [hlt]; exact hpre) (by omega)
    rw [hlt] at hcall
    have hxc := hx.cap
    have hvc : v.length ≤ c4 := by have := hl4.cells; omega
    (repeat (first | ((with_reducible refine Tr.step rfl ?_); (first | (refine xmQ (z := ?_)) | (refine xnQ (z := ?_)) | (refine xiQ (z := ?_)) | ((with_reducible refine Knd.pick ?_); (refine Exec.stab rfl (Stab.pick_fd rfl (by first | (with_reducible assumption) | (with_reducible rfl) | (with_reducible exact (not_not_intro rfl)) | omega) rfl) rfl ?_)) | ((with_reducible refine Knd.slice ?_); (refine Exec.stab rfl (Stab.slice_h rfl rfl (tysOk.get rfl) rfl (tysOk.get rfl) (by omega) (by omega)) rfl ?_)))) | (with_reducible first | apply Tr.next | apply Tr.seq | apply Tr.region | apply Tr.nil) | (refine Tr.guard_n rfl rfl rfl (by first | (with_reducible assumption) | (with_reducible rfl) | (with_reducible exact (not_not_intro rfl)) | omega) rfl rfl ?_) | (with_reducible first | apply Tr.exit | apply Tr.then_exit) | ((with_reducible refine Tr.in_exit ?_ ?_); (exact rfl)) | (refine Tr.cond_bf rfl (by first | (with_reducible rfl) | (with_reducible assumption) | (with_reducible exact Bool.not_true) | (with_reducible exact Bool.not_false)) ?_)))
    ((refine Tr.step rfl ?_)); refine Exec.call0 rfl (hcall) rfl ?_
    rintro _ M5 hm5 hR
    rw [RRead, hR2] at hR
    obtain ⟨A8, c8, A9, c9, rfl, hl8', hr9⟩ := hR
    dsimp only at hl8' hr9 ⊢
    have hv5 := hl4.pre (k := i) (m := c4) (by omega) (by have := hl4.cells; omega) (Nat.le_refl _)
    rw [e1] at hl8' ⊢
    have hcall2 := rsameFrames_fn M5 (v.take i) (v.take i) A8 A4 c8 c4 (by rw [e1]; exact hl8') (by rw [e1]; exact RFrms.up hv5 hm5)
    rw [e1] at hcall2
    have hsub := (hx.mono hm5).sub (l := en) (k := kk) (m := c3) (by omega) hkk (by omega) (Nat.le_refl _)
    rw [← List.drop_take] at hsub
    rw [← he] at hr9 ⊢
    (repeat (first | ((with_reducible refine Tr.step rfl ?_); (first | (refine xmQ (z := ?_)) | (refine xaQ (z := ?_)) | ((with_reducible refine Knd.extract ?_); (refine Exec.stab rfl (Stab.extract rfl rfl) rfl ?_)))) | (with_reducible first | apply Tr.next | apply Tr.seq | apply Tr.nil)))
    (((apply Tr.draw); (kernel_rfl)); (refine tkQ 0 (hB := by exact fun _ h => h) (s := by exact Stab.move rfl) (h := ?_)); (refine tkQ 1 (s := by exact Stab.move rfl) (h := ?_)); (refine tkQ 2 (s := by exact Stab.move rfl) (h := ?_)); (refine tkQ 3 (s := by exact Stab.slice_h rfl rfl (tysOk.get rfl) rfl (tysOk.get rfl) (by omega) (by omega)) (h := ?_)); (refine TrA.eff 4 rfl (by kernel_rfl) (by first | exact .inl rfl | exact .inr ⟨_, _, _, rfl, rfl, rfl⟩) ?_))
    refine Exec.call0 rfl hcall2 rfl ?_
    rintro _ _ _ ⟨rfl, rfl⟩
    refine ⟨Mem.le.refl _, (by exact fun _ h => h), ?_⟩
    rw [decide_eq_true rfl]
    ((refine tkQ 5 (s := by exact Stab.move rfl) (h := ?_)); ((refine tgQ 6 (q := (by first | (with_reducible rfl) | (with_reducible assumption) | (with_reducible exact Bool.not_true) | (with_reducible exact Bool.not_false))) (s := by exact Stab.move rfl) (h := ?_))); ((refine tgQ 8 (q := (by first | (with_reducible rfl) | (with_reducible assumption) | (with_reducible exact Bool.not_true) | (with_reducible exact Bool.not_false))) (s := by exact Stab.move rfl) (h := ?_))); ((refine tgQ 9 (q := (by first | (with_reducible rfl) | (with_reducible assumption) | (with_reducible exact Bool.not_true) | (with_reducible exact Bool.not_false))) (s := by exact Stab.move rfl) (h := ?_))); ((refine tgQ 10 (q := (by first | (with_reducible rfl) | (with_reducible assumption) | (with_reducible exact Bool.not_true) | (with_reducible exact Bool.not_false))) (s := by exact Stab.move rfl) (h := ?_))); ((refine tgQ 7 (q := (by first | (with_reducible rfl) | (with_reducible assumption) | (with_reducible exact Bool.not_true) | (with_reducible exact Bool.not_false))) (s := by exact Stab.bstrB rfl (tysOk.get rfl) (tysOk.get rfl) rfl rfl (tysOk.get rfl) rfl (by assumption)) (h := ?_))); ((refine tgQ 11 (q := (by first | (with_reducible rfl) | (with_reducible assumption) | (with_reducible exact Bool.not_true) | (with_reducible exact Bool.not_false))) (s := by exact Stab.slice_lh rfl rfl rfl (tysOk.get rfl) rfl (tysOk.get rfl) rfl (by omega) (by omega) (by omega)) (h := ?_))))
    (((refine tgQ 12 (q := (by first | (with_reducible rfl) | (with_reducible assumption) | (with_reducible exact Bool.not_true) | (with_reducible exact Bool.not_false))) (s := by exact Stab.bstrB rfl (tysOk.get rfl) (tysOk.get rfl) rfl rfl (tysOk.get rfl) rfl (by assumption)) (h := ?_))); ((refine tgQ 13 (q := (by first | (with_reducible rfl) | (with_reducible assumption) | (with_reducible exact Bool.not_true) | (with_reducible exact Bool.not_false))) (s := by exact Stab.streq rfl rfl) (h := ?_))))
    rw [decide_eq_true rfl]
    ((refine tkQ 14 (s := by exact Stab.pick_t rfl (by first | (with_reducible rfl) | (with_reducible assumption) | (with_reducible exact Bool.not_true) | (with_reducible exact Bool.not_false)) rfl) (h := ?_)); (refine tkQ 15 (s := by exact Stab.assign rfl) (h := ?_)); (refine TrA.done (by kernel_rfl) ?_))
    (repeat (first | (with_reducible first | apply Tr.next | apply Tr.ret)))
    have hmm : M.le M5 := hm1.trans (hm3.trans (hm4.trans hm5))
    (refine dnQ (hL := by exact ⟨[], rfl⟩) (k := ⟨rfl, ?_⟩))
    rfl
end Go.Proofs.YtghjhdbmkilakaaDoor

/-
  Frames: the tied card of FramesBack.
  Conditions: none.
-/
namespace Go.Proofs.YtghjhdbmkilakaaDoor
open Go Bf
open Go.ChangeShapes Go.WideShapes Go.ChangeAt Go.RowKit
set_option maxRecDepth 100000 in
theorem framesBack_lifted (os : Os) (started : os.Started) (H : Type) (enc : TypeId × Value → H) :
    ReturnsInHanded {} Tryd.checked os 4 .any (fun w args => (Rows.framesBackSpec.pre enc Tryd.prog Tryd.f4 [] false w args ∧ laidMetH Tryd.prog [("backflush/digest.constants", .agg (kI.map fun x => .lit (.int .u32 x)))] w) ∧ sizedMet enc Tryd.prog Tryd.f4 (OpenSpec.ofChange Rows.framesBackSpec) false w args) (Rows.framesBackSpec.post enc Tryd.prog Tryd.f4 false true false false) :=
  lift_true_laid (C := Tryd.checked) (ts := [29, 36]) (tb := 4) (name := "backflush/digest.constants") (g := 0) (ns := kI) started ownT' (by kernel_rfl) Tryd.func4
    (ChangeSpec.witness_shaped (enc := enc) (C := Tryd.checked) (os := os) (X := fun w _ => laidMetH Tryd.prog [("backflush/digest.constants", .agg (kI.map fun x => .lit (.int .u32 x)))] w) false (World.doorLaid Tryd.prog 400 os) #[.slice none 0 0, .int .u64 0] 8 rfl (World.shaped_of_RefB (by kernel_rfl) (by kernel_rfl)) (by kernel_rfl) (by kernel_rfl) (by kernel_rfl) (door_met os _))
    (by rw [Tryd.params4]) laidT' (by kernel_rfl) rfl (fun ds h => match ds, h with | [_, _], _ => rfl) rfl Tryd.underlying4
    gK (by kernel_rfl) u137 u116 c116 (by decide)
    (fun W base vs hK0 hl ha => by
      have hK := kI_at hK0
      obtain ⟨v0, v1, rfl⟩ := len2 hl
      obtain ⟨a, aA, ac, rfl, qa⟩ := arg_frms (ha 0 29 v0 rfl rfl)
      obtain ⟨b, rfl, pb⟩ := arg_uint (ha 1 36 v1 rfl rfl)
      exact law4_fn _ hK aA ac a b pb qa)
theorem framesBack_row : Rows.FramesBackSaid :=
  OpenClaim.holds_of_wide 4 Tryd.f4 rfl rfl rfl rfl rfl rfl rfl ⟨rfl, rfl, rfl, rfl, rfl⟩ rfl rfl rfl rfl rfl (by kernel_rfl) Tryd.func4 (by kernel_rfl)
    (of_decide_eq_true (by kernel_rfl)) (by unfold Func.isWrapper; first | (rw [if_pos (by decide +kernel)]; kernel_rfl) | (rw [if_neg (by decide +kernel)]; exact ⟨rfl, rfl⟩))
    (fun os started H enc _ => by
      have h := framesBack_lifted os started H enc
      rw [kI_laid] at h
      exact h)
theorem framesBack_holds : Rows.FramesBackCardSaid :=
  Claim7.holds_tied_plain_at .later [] [.data] true Rows.framesBackCard.stood.harness false
    framesBack_row (fun _ h => by cases h) (by kernel_rfl) (fun _ h => by cases h) framesBack_row_tie rfl ⟨rfl, rfl⟩ (by kernel_rfl) rfl
    (fun f fn hf hfn => by
      obtain rfl : f = 4 := Option.some.inj ((show Tryd.prog.funcNamed "backflush/backflushlaw47.FramesBack" = some 4 by kernel_rfl).symm.trans hf) |>.symm
      obtain rfl : fn = Tryd.f4 := (Option.some.inj (Tryd.func4.symm.trans hfn)).symm
      exact ⟨by kernel_rfl, fun j t ht => by
        rw [Tryd.params4] at ht
        have hm : t ∈ [29, 36] := by simpa using Array.mem_of_getElem? ht
        have hall : ([29, 36].all fun u => !Tryd.prog.wantsStandIn u) = true := by kernel_rfl
        exact (show Tryd.prog.wantsStandIn t = false by simpa using List.all_eq_true.1 hall t hm)⟩)
    (by kernel_rfl)
end Go.Proofs.YtghjhdbmkilakaaDoor

/-
  Frames: the tied card of FramesWhole.
  Conditions: none.
-/
namespace Go.Proofs.YtghjhdbmkilakaaDoor
open Go Bf
open Go.ChangeShapes Go.WideShapes Go.ChangeAt Go.RowKit
set_option maxRecDepth 100000 in
theorem framesWhole_lifted (os : Os) (started : os.Started) (H : Type) (enc : TypeId × Value → H) :
    ReturnsInHanded {} Tryd.checked os 5 .any (fun w args => (Rows.framesWholeSpec.pre enc Tryd.prog Tryd.f5 [] false w args ∧ laidMetH Tryd.prog [("backflush/digest.constants", .agg (kI.map fun x => .lit (.int .u32 x)))] w) ∧ sizedMet enc Tryd.prog Tryd.f5 (OpenSpec.ofChange Rows.framesWholeSpec) false w args) (Rows.framesWholeSpec.post enc Tryd.prog Tryd.f5 false true false false) :=
  lift_true_laid (C := Tryd.checked) (ts := [22]) (tb := 4) (name := "backflush/digest.constants") (g := 0) (ns := kI) started ownT' (by kernel_rfl) Tryd.func5
    (ChangeSpec.witness_shaped (enc := enc) (C := Tryd.checked) (os := os) (X := fun w _ => laidMetH Tryd.prog [("backflush/digest.constants", .agg (kI.map fun x => .lit (.int .u32 x)))] w) false (World.doorLaid Tryd.prog 400 os) #[.slice none 0 0] 8 rfl (World.shaped_of_RefB (by kernel_rfl) (by kernel_rfl)) (by kernel_rfl) (by kernel_rfl) (by kernel_rfl) (door_met os _))
    (by rw [Tryd.params5]) laidT' (by kernel_rfl) rfl (fun ds h => match ds, h with | [_], _ => rfl) rfl Tryd.underlying4
    gK (by kernel_rfl) u137 u116 c116 (by decide)
    (fun W base vs hK0 hl ha => by
      have hK := kI_at hK0
      obtain ⟨v0, rfl⟩ := len1 hl
      obtain ⟨a, aA, ac, rfl, qa⟩ := arg_bytes (ha 0 22 v0 rfl rfl)
      exact law5_fn _ hK aA ac a qa)
theorem framesWhole_row : Rows.FramesWholeSaid :=
  OpenClaim.holds_of_wide 5 Tryd.f5 rfl rfl rfl rfl rfl rfl rfl ⟨rfl, rfl, rfl, rfl, rfl⟩ rfl rfl rfl rfl rfl (by kernel_rfl) Tryd.func5 (by kernel_rfl)
    (of_decide_eq_true (by kernel_rfl)) (by unfold Func.isWrapper; first | (rw [if_pos (by decide +kernel)]; kernel_rfl) | (rw [if_neg (by decide +kernel)]; exact ⟨rfl, rfl⟩))
    (fun os started H enc _ => by
      have h := framesWhole_lifted os started H enc
      rw [kI_laid] at h
      exact h)
theorem framesWhole_holds : Rows.FramesWholeCardSaid :=
  Claim7.holds_tied_plain_at .later [] [.data] true Rows.framesWholeCard.stood.harness false
    framesWhole_row (fun _ h => by cases h) (by kernel_rfl) (fun _ h => by cases h) framesWhole_row_tie rfl ⟨rfl, rfl⟩ (by kernel_rfl) rfl
    (fun f fn hf hfn => by
      obtain rfl : f = 5 := Option.some.inj ((show Tryd.prog.funcNamed "backflush/backflushlaw47.FramesWhole" = some 5 by kernel_rfl).symm.trans hf) |>.symm
      obtain rfl : fn = Tryd.f5 := (Option.some.inj (Tryd.func5.symm.trans hfn)).symm
      exact ⟨by kernel_rfl, fun j t ht => by
        rw [Tryd.params5] at ht
        have hm : t ∈ [22] := by simpa using Array.mem_of_getElem? ht
        have hall : ([22].all fun u => !Tryd.prog.wantsStandIn u) = true := by kernel_rfl
        exact (show Tryd.prog.wantsStandIn t = false by simpa using List.all_eq_true.1 hall t hm)⟩)
    (by kernel_rfl)
end Go.Proofs.YtghjhdbmkilakaaDoor

/-
  Frames: the law FramesScan.
  Conditions: none.
-/
namespace Go.Proofs.YtghjhdbmkilakaaDoor
open Go Bf
attribute [local irreducible] Tr Exec Stab HasTy Go.Addr.add IntKind.wrap
attribute [local irreducible] encFr readF scanF TF flatF
/-- the bytes of junk that are not the mark -/
def clF (j : List UInt8) : List UInt8 := j.filter fun x => decide (x ≠ 170)
theorem clF_take {j : List UInt8} {i : Nat} {x : UInt8} (hx : j[i]? = some x) : clF (j.take (i + 1)) = clF (j.take i) ++ (if x ≠ 170 then [x] else []) := by
  unfold clF
  rw [List.take_add_one, hx, Option.toList_some, List.filter_append]
  by_cases h : x = 170 <;> simp [h]
theorem clF_le (j : List UInt8) : (clF j).length ≤ j.length := List.length_filter_le _ _
theorem clF_ok (j : List UInt8) : ∀ x ∈ clF j, x ≠ 170 := fun x hx => of_decide_eq_true (List.mem_filter.1 hx).2
/-- the frames with the junk between them -/
def gapF (c : List UInt8) (l : List Frm) : List UInt8 := c ++ l.flatMap fun f => encB TF f ++ c
theorem gapF_snoc (c : List UInt8) (l : List Frm) (f : Frm) : gapF c (l ++ [f]) = gapF c l ++ encB TF f ++ c := by
  unfold gapF
  rw [List.flatMap_append]
  simp
theorem gap_le (c : List UInt8) (hc : c.length ≤ 200) : ∀ (l : List Frm), (∀ f ∈ l, okF f) → (gapF c l).length ≤ 200 + l.length * 65746
  | [], _ => by simp [gapF]; omega
  | f :: l, h => by
    have h1 := gap_le c hc l fun x hx => h x (List.mem_cons_of_mem _ hx)
    have h2 := (h f List.mem_cons_self).2
    have h3 := encB_length TF_len f
    have e : (gapF c (f :: l)).length = (encB TF f).length + c.length + (gapF c l).length := by
      unfold gapF
      rw [List.flatMap_cons]
      simp only [List.length_append]
      omega
    rw [e, List.length_cons]
    omega
def sumF (l : List Frm) : Nat := (l.map fun f => f.body.length + 10).sum
theorem sumF_take {l : List Frm} {i : Nat} {x : Frm} (hx : l[i]? = some x) : sumF (l.take (i + 1)) = sumF (l.take i) + (x.body.length + 10) := by
  unfold sumF
  rw [List.take_add_one, hx, Option.toList_some, List.map_append, List.sum_append]
  simp
theorem sumF_le (l : List Frm) (i : Nat) : sumF (l.take i) ≤ sumF l := by
  conv => rhs; rw [← List.take_append_drop i l]
  unfold sumF
  rw [List.map_append, List.sum_append]
  omega
theorem sumF_len : ∀ (l : List Frm), l.length ≤ sumF l
  | [] => by simp
  | f :: l => by
    have := sumF_len l
    unfold sumF at *
    simp only [List.length_cons, List.map_cons, List.sum_cons]
    omega
set_option maxHeartbeats 4000000 in
theorem law6_fn (M : Mem) (hK : Tab M) (B A J : Option Addr) (k ca cj : Nat) (bs : List UInt8) (l : List Frm) (jk : List UInt8) (hb : BSl M (.slice B bs.length k) bs) (hl : RFrms M (.slice A l.length ca) l) (hj : BSl M (.slice J jk.length cj) jk) :
    Fn0 Tryd.prog 6 [.slice B bs.length k, .slice A l.length ca, .slice J jk.length cj] M (fun r _ => r = .bool true) := by
  have hbl := hb.len_le
  have hll := hl.len_le
  have hjl := hj.len_le
  refine Fn.intro Tryd.func6 rfl rfl Tryd.ntmps6 rfl fun E F => ?_
  (repeat (first | ((with_reducible refine Tr.step rfl ?_); (with_reducible refine Knd.assign ?_); (refine xaQ (z := ?_))) | (with_reducible first | apply Tr.next | apply Tr.seq | apply Tr.region | apply Tr.nil)))
  ((refine Tr.step rfl ?_)); refine Exec.call0 rfl (sane_fn M hK) rfl ?_
  rintro _ M1 hm1 rfl
  replace hb := hb.mono hm1
  replace hj := hj.mono hm1
  replace hl := RFrms.up hl hm1
  replace hK := hK.mono hm1
  by_cases h1 : bs.length ≤ 3000
  case neg =>
    (repeat (first | ((with_reducible refine Tr.step rfl ?_); (first | (refine xmQ (z := ?_)) | (refine xaQ (z := ?_)) | (refine xnQ (z := ?_)) | (refine xiQ (z := ?_)) | ((with_reducible refine Knd.pick ?_); (first | (refine Exec.stab rfl (Stab.pick_t rfl (by first | (with_reducible rfl) | (with_reducible assumption) | (with_reducible exact Bool.not_true) | (with_reducible exact Bool.not_false)) rfl) rfl ?_) | (refine Exec.stab rfl (Stab.pick_td rfl (by first | (with_reducible assumption) | (with_reducible rfl) | (with_reducible exact (not_not_intro rfl)) | omega) rfl) rfl ?_))) | ((with_reducible refine Knd.unOp ?_); (refine Exec.stab rfl (Stab.not rfl) rfl ?_)))) | (with_reducible first | apply Tr.next | apply Tr.seq | apply Tr.region | apply Tr.nil) | (refine Tr.guard_s0 rfl rfl rfl (by first | (with_reducible rfl) | (with_reducible assumption) | (with_reducible exact Bool.not_true) | (with_reducible exact Bool.not_false)) rfl rfl ?_) | (refine Tr.guard_n' rfl rfl rfl (by first | (with_reducible assumption) | (with_reducible rfl) | (with_reducible exact (not_not_intro rfl)) | omega) rfl rfl ?_) | (with_reducible first | apply Tr.skip | apply Tr.ret | apply Tr.then_ret) | (refine Tr.cond_bt rfl (by first | (with_reducible rfl) | (with_reducible assumption) | (with_reducible exact Bool.not_true) | (with_reducible exact Bool.not_false)) ?_) | (refine Tr.cond_bf rfl (by first | (with_reducible rfl) | (with_reducible assumption) | (with_reducible exact Bool.not_true) | (with_reducible exact Bool.not_false)) ?_)))
    (refine dnQ (hL := by exact ⟨[], rfl⟩) (k := ⟨rfl, ?_⟩))
    rfl
  (repeat (first | ((with_reducible refine Tr.step rfl ?_); (first | (refine xmQ (z := ?_)) | (refine xnQ (z := ?_)) | (refine xiQ (z := ?_)) | ((with_reducible refine Knd.unOp ?_); (refine Exec.stab rfl (Stab.not rfl) rfl ?_)))) | (with_reducible first | apply Tr.next | apply Tr.seq | apply Tr.region | apply Tr.nil) | ((refine Tr.guard_y' rfl rfl rfl (by first | (with_reducible assumption) | (with_reducible rfl) | (with_reducible exact (not_not_intro rfl)) | omega) ?_); (with_reducible refine Knd.move ?_); (refine xmQ (z := ?_))) | (with_reducible refine Tr.skip ?_) | (refine Tr.cond_bf rfl (by first | (with_reducible rfl) | (with_reducible assumption) | (with_reducible exact Bool.not_true) | (with_reducible exact Bool.not_false)) ?_)))
  ((refine Tr.guard_y' rfl rfl rfl (by first | (with_reducible assumption) | (with_reducible rfl) | (with_reducible exact (not_not_intro rfl)) | omega) ?_)); refine Exec.call0 rfl (fewFrames_fn M1 l A ca hl) rfl ?_
  rintro _ M2 hm2 ⟨⟨b, rfl, hl8⟩, rfl⟩
  cases b with
  | false =>
    (repeat (first | ((with_reducible refine Tr.step rfl ?_); (first | (refine xmQ (z := ?_)) | (refine xaQ (z := ?_)) | ((with_reducible refine Knd.pick ?_); (first | (refine Exec.stab rfl (Stab.pick_t rfl (by first | (with_reducible rfl) | (with_reducible assumption) | (with_reducible exact Bool.not_true) | (with_reducible exact Bool.not_false)) rfl) rfl ?_) | (refine Exec.stab rfl (Stab.pick_fd rfl (by first | (with_reducible assumption) | (with_reducible rfl) | (with_reducible exact (not_not_intro rfl)) | omega) rfl) rfl ?_))))) | (with_reducible first | apply Tr.next | apply Tr.seq | apply Tr.region | apply Tr.nil) | (refine Tr.guard_s0 rfl rfl rfl (by first | (with_reducible rfl) | (with_reducible assumption) | (with_reducible exact Bool.not_true) | (with_reducible exact Bool.not_false)) rfl rfl ?_) | ((refine Tr.guard_y' rfl rfl rfl (by first | (with_reducible assumption) | (with_reducible rfl) | (with_reducible exact (not_not_intro rfl)) | omega) ?_); (with_reducible refine Knd.unOp ?_); (refine Exec.stab rfl (Stab.not rfl) rfl ?_)) | (with_reducible first | apply Tr.ret | apply Tr.then_ret) | (refine Tr.cond_bt rfl (by first | (with_reducible rfl) | (with_reducible assumption) | (with_reducible exact Bool.not_true) | (with_reducible exact Bool.not_false)) ?_)))
    (refine dnQ (hL := by exact ⟨[], rfl⟩) (k := ⟨rfl, ?_⟩))
    rfl
  | true =>
  replace hl8 := hl8 rfl
  by_cases h2 : jk.length ≤ 200
  case neg =>
    (repeat (first | ((with_reducible refine Tr.step rfl ?_); (first | (refine xmQ (z := ?_)) | (refine xaQ (z := ?_)) | ((with_reducible refine Knd.pick ?_); (first | (refine Exec.stab rfl (Stab.pick_f rfl (by first | (with_reducible rfl) | (with_reducible assumption) | (with_reducible exact Bool.not_true) | (with_reducible exact Bool.not_false)) rfl) rfl ?_) | (refine Exec.stab rfl (Stab.pick_fd rfl (by first | (with_reducible assumption) | (with_reducible rfl) | (with_reducible exact (not_not_intro rfl)) | omega) rfl) rfl ?_))))) | (with_reducible first | apply Tr.next | apply Tr.seq | apply Tr.region | apply Tr.nil) | ((refine Tr.guard_l rfl rfl rfl (by first | (with_reducible rfl) | (with_reducible assumption) | (with_reducible exact Bool.not_true) | (with_reducible exact Bool.not_false)) ?_); (first | (refine xmQ (z := ?_)) | (refine xnQ (z := ?_)) | (refine xiQ (z := ?_)))) | ((refine Tr.guard_y' rfl rfl rfl (by first | (with_reducible assumption) | (with_reducible rfl) | (with_reducible exact (not_not_intro rfl)) | omega) ?_); (with_reducible refine Knd.unOp ?_); (refine Exec.stab rfl (Stab.not rfl) rfl ?_)) | (with_reducible first | apply Tr.ret | apply Tr.then_ret) | (refine Tr.cond_t rfl (by first | (with_reducible assumption) | (with_reducible rfl) | (with_reducible exact (not_not_intro rfl)) | omega) ?_)))
    (refine dnQ (hL := by exact ⟨[], rfl⟩) (k := ⟨rfl, ?_⟩))
    rfl
  obtain ⟨s1, s2, s3⟩ := scan_spec (T := TF) bs.length bs (Nat.le_refl _)
  (repeat (first | ((with_reducible refine Tr.step rfl ?_); (first | (refine xmQ (z := ?_)) | ((with_reducible refine Knd.pick ?_); (first | (refine Exec.stab rfl (Stab.pick_f rfl (by first | (with_reducible rfl) | (with_reducible assumption) | (with_reducible exact Bool.not_true) | (with_reducible exact Bool.not_false)) rfl) rfl ?_) | (refine Exec.stab rfl (Stab.pick_fd rfl (by first | (with_reducible assumption) | (with_reducible rfl) | (with_reducible exact (not_not_intro rfl)) | omega) rfl) rfl ?_))))) | (with_reducible first | apply Tr.next | apply Tr.seq | apply Tr.region | apply Tr.nil) | ((refine Tr.guard_l rfl rfl rfl (by first | (with_reducible rfl) | (with_reducible assumption) | (with_reducible exact Bool.not_true) | (with_reducible exact Bool.not_false)) ?_); (first | (refine xmQ (z := ?_)) | (refine xnQ (z := ?_)) | (refine xiQ (z := ?_)))) | ((refine Tr.guard_y' rfl rfl rfl (by first | (with_reducible assumption) | (with_reducible rfl) | (with_reducible exact (not_not_intro rfl)) | omega) ?_); (with_reducible refine Knd.unOp ?_); (refine Exec.stab rfl (Stab.not rfl) rfl ?_)) | (with_reducible refine Tr.skip ?_) | (refine Tr.cond_f rfl (by first | (with_reducible assumption) | (with_reducible rfl) | (with_reducible exact (not_not_intro rfl)) | omega) ?_)))
  ((refine Tr.step rfl ?_)); refine Exec.call0 rfl (scan_fn M1 hK B k bs hb (by omega)) rfl ?_
  rintro _ M3 hm3 ⟨A3, c3, rfl, hl3⟩
  replace hb := hb.mono hm3
  replace hj := hj.mono hm3
  replace hl := RFrms.up hl hm3
  replace hK := hK.mono hm3
  (repeat (first | ((with_reducible refine Tr.step rfl ?_); (first | (refine xmQ (z := ?_)) | (refine xaQ (z := ?_)) | ((with_reducible refine Knd.extract ?_); (refine Exec.stab rfl (Stab.extract rfl rfl) rfl ?_)))) | (with_reducible first | apply Tr.next | apply Tr.seq | apply Tr.region | apply Tr.nil)))
  ((refine Tr.step rfl ?_)); refine Exec.call0 rfl (read_fn M3 hK B k bs hb (by omega)) rfl ?_
  rintro _ M4 hm4 ⟨A4, c4, A5, c5, rfl, hl4, hr4⟩
  replace hb := hb.mono hm4
  replace hj := hj.mono hm4
  replace hl := RFrms.up hl hm4
  replace hK := hK.mono hm4
  replace hl3 := RFrms.up hl3 hm4
  generalize (readF TF bs).1 = ry at *
  generalize (readF TF bs).2 = rn at *
  generalize scanF TF bs = p at *
  obtain ⟨sx, sn⟩ := p
  dsimp only at *
  have hyx : ry.length ≤ sx.length := by rw [s1, List.length_take]; omega
  have hpre := hl3.pre (k := ry.length) (m := c3) hyx (by have := hl3.cells; omega) (Nat.le_refl _)
  have hxc : sx.length ≤ c3 := by have := hl3.cells; omega
  rw [← s1] at hpre
  (repeat (first | ((with_reducible refine Tr.step rfl ?_); (first | (refine xmQ (z := ?_)) | (refine xaQ (z := ?_)) | (refine xnQ (z := ?_)) | (refine xiQ (z := ?_)) | ((with_reducible refine Knd.extract ?_); (refine Exec.stab rfl (Stab.extract rfl rfl) rfl ?_)))) | (with_reducible first | apply Tr.next | apply Tr.seq | apply Tr.region | apply Tr.nil) | ((refine Tr.guard_y' rfl rfl rfl (by first | (with_reducible assumption) | (with_reducible rfl) | (with_reducible exact (not_not_intro rfl)) | omega) ?_); (first | (refine xmQ (z := ?_)) | (refine xnQ (z := ?_)) | ((with_reducible refine Knd.slice ?_); (refine Exec.stab rfl (Stab.slice_h rfl rfl (tysOk.get rfl) rfl (tysOk.get rfl) (by omega) (by omega)) rfl ?_))))))
  ((refine Tr.guard_y' rfl rfl rfl (by first | (with_reducible assumption) | (with_reducible rfl) | (with_reducible exact (not_not_intro rfl)) | omega) ?_)); refine Exec.call0 rfl (rsameFrames_fn M4 ry ry A3 A4 c3 c4 hpre hl4) rfl ?_
  rintro _ _ _ ⟨rfl, rfl⟩
  rw [decide_eq_true rfl]
  (repeat (first | ((with_reducible refine Tr.step rfl ?_); (first | (refine xmQ (z := ?_)) | (refine xaQ (z := ?_)) | ((with_reducible refine Knd.pick ?_); (refine Exec.stab rfl (Stab.pick_fd rfl (by first | (with_reducible assumption) | (with_reducible rfl) | (with_reducible exact (not_not_intro rfl)) | omega) rfl) rfl ?_)))) | (with_reducible first | apply Tr.next | apply Tr.seq | apply Tr.region | apply Tr.nil) | ((refine Tr.guard_y' rfl rfl rfl (by first | (with_reducible assumption) | (with_reducible rfl) | (with_reducible exact (not_not_intro rfl)) | omega) ?_); (with_reducible refine Knd.unOp ?_); (refine Exec.stab rfl (Stab.not rfl) rfl ?_)) | (with_reducible first | apply Tr.skip | apply Tr.block) | (refine Tr.cond_bf rfl (by first | (with_reducible rfl) | (with_reducible assumption) | (with_reducible exact Bool.not_true) | (with_reducible exact Bool.not_false)) ?_)))
  have hsum : sn + sumF sx = bs.length := s2
  have hsl := sumF_len sx
  refine Tr.loop (α := Nat) (fun i => ⟨148, [(12, .int .i64 (i : Int)), (11, .int .i64 ((sn + sumF (sx.take i) : Nat) : Int)), (7, .slice A3 sx.length c3), (6, .bool false), (0, .slice B bs.length k), (1, .slice A l.length ca), (2, .slice J jk.length cj)], [], M4, [] ++ F⟩) (fun i => i ≤ sx.length) (fun i => sx.length - i) 0 (Nat.zero_le _) hsQ (fun i hi => ?_)
  have hsi := sumF_le sx i
  by_cases hlt : i < sx.length
  · obtain ⟨x, hx⟩ := get_of_lt hlt
    obtain ⟨hA, ch, hat, Ax, kx, rfl, hbx, hkx⟩ := hl3.elem hx
    have hat1 : At M4 (((A3.getD default).add (i * 2)).add 1) [.slice Ax x.body.length kx] := hat.tail
    have hst := sumF_take hx
    have hsi1 := sumF_le sx (i + 1)
    (repeat (first | ((with_reducible refine Tr.step rfl ?_); (first | (refine xmQ (z := ?_)) | (refine xaQ (z := ?_)) | (refine xMQ (z := ?_)) | ((with_reducible refine Knd.fieldAddr ?_); (refine Exec.stab rfl (Stab.fieldD rfl (tysOk.get rfl) rfl rfl (tysOk.get rfl) rfl) rfl ?_)) | (refine xnQ (z := ?_)) | ((with_reducible refine Knd.binOp ?_); (first | (refine xdQ (z := ?_)) | (refine xiQ (z := ?_)))) | (refine xxQ (z := ?_)))) | (with_reducible first | apply Tr.next | apply Tr.seq | apply Tr.region | apply Tr.nil | apply Tr.skip | apply Tr.block | apply Tr.in_normal) | (refine Tr.cond_t rfl (by first | (with_reducible assumption) | (with_reducible rfl) | (with_reducible exact (not_not_intro rfl)) | omega) ?_)))
    rw [show ((sn + sumF (sx.take i) : Nat) : Int) + ((x.body.length : Int) + 10) = ((sn + sumF (sx.take (i + 1)) : Nat) : Int) by omega]
    refine Tr.again (i + 1) (by omega) (by omega) hsQ
  have e : i = sx.length := by omega
  subst e
  rw [List.take_of_length_le (Nat.le_refl _), hsum]
  (repeat (first | ((with_reducible refine Tr.step rfl ?_); (first | (refine xmQ (z := ?_)) | (refine xaQ (z := ?_)) | (refine xnQ (z := ?_)) | (refine xiQ (z := ?_)) | ((with_reducible refine Knd.buildSlice ?_); (refine Exec.buildSlice (tysOk.get rfl) rfl (tysOk.get rfl) rfl rfl rfl rfl rfl (by repeat (first | exact BuildP.nil | ((apply BuildP.one); (rfl); (rfl); (first | rfl | assumption); (repeat (first | exact SetL.z | apply SetL.s))) | ((apply BuildP.many); (rfl); (rfl); (rfl); (rfl); (repeat (first | exact PutL.nil | ((apply PutL.cons); (repeat (first | exact SetL.z | apply SetL.s)))))))) rfl (fun b => ?_))))) | (with_reducible first | apply Tr.next | apply Tr.seq | apply Tr.region | apply Tr.nil | apply Tr.skip | apply Tr.block | apply Tr.exit | apply Tr.then_exit) | ((with_reducible refine Tr.in_exit ?_ ?_); (exact rfl)) | (refine Tr.cond_f rfl (by first | (with_reducible assumption) | (with_reducible rfl) | (with_reducible exact (not_not_intro rfl)) | omega) ?_)))
  refine Tr.cells (cs' := byteV (clF (jk.take 0))) (by repeat (first | exact Upd.here | apply Upd.there)) rfl ?_
  refine Tr.box_own 1 0 (by repeat (first | exact Upd.here | apply Upd.there)) rfl (byteV_one _) (by simp [maxLen]) ?_
  (skip)
  refine Tr.loop (α := Nat × Option Addr × Nat) (fun y => ⟨148, [(14, .int .i64 (y.1 : Int)), (13, .slice y.2.1 (clF (jk.take y.1)).length y.2.2), (6, .bool false), (1, .slice A l.length ca), (2, .slice J jk.length cj)], [], M4, ownS 5 1 y.2.1 (clF (jk.take y.1)).length y.2.2 (byteV (clF (jk.take y.1))) :: ([] ++ F)⟩) (fun y => y.1 ≤ jk.length ∧ y.2.2 ≤ 9223372036854775807) (fun y => jk.length - y.1) (0, some ⟨b, 0, none⟩, 0) (by simp) hsQ (fun y hy => ?_)
  clear hi hlt
  obtain ⟨i, R, rc⟩ := y
  obtain ⟨hi, hrc⟩ := hy
  dsimp only at hi hrc ⊢
  have hcl := clF_le (jk.take i)
  rw [List.length_take] at hcl
  by_cases hlt : i < jk.length
  · obtain ⟨x, hx⟩ := get_of_lt hlt
    obtain ⟨hA, hat⟩ := hj.byte hx
    have hx8 := x.toNat_lt
    have hct := clF_take hx
    by_cases h170 : x = 170
    · have hxn : x.toNat = 170 := by rw [h170]; rfl
      rw [if_neg (fun h => h h170), List.append_nil] at hct
      (repeat (first | ((with_reducible refine Tr.step rfl ?_); (first | (refine xmQ (z := ?_)) | (refine xaQ (z := ?_)) | (refine xMQ (z := ?_)) | (refine xnQ (z := ?_)) | ((with_reducible refine Knd.binOp ?_); (first | (refine xdQ (z := ?_)) | (refine xiQ (z := ?_)))) | (refine xxQ (z := ?_)))) | (with_reducible first | apply Tr.next | apply Tr.seq | apply Tr.region | apply Tr.nil | apply Tr.skip | apply Tr.block | apply Tr.in_normal) | (refine Tr.cond_t rfl (by first | (with_reducible assumption) | (with_reducible rfl) | (with_reducible exact (not_not_intro rfl)) | omega) ?_) | (refine Tr.cond_f rfl (by first | (with_reducible assumption) | (with_reducible rfl) | (with_reducible exact (not_not_intro rfl)) | omega) ?_)))
      refine Tr.again (i + 1, R, rc) ⟨by simp only; omega, hrc⟩ (by simp only; omega) ?_
      dsimp only
      rw [hct]
      exact hsQ
    · have hxn : ¬ x.toNat = 170 := fun h => h170 (UInt8.toNat_inj.1 h)
      rw [if_pos h170] at hct
      (repeat (first | ((with_reducible refine Tr.step rfl ?_); (first | (refine xmQ (z := ?_)) | (refine xMQ (z := ?_)) | (refine xnQ (z := ?_)) | (refine xiQ (z := ?_)) | (refine xxQ (z := ?_)) | ((with_reducible refine Knd.buildSlice ?_); (refine Exec.buildSlice (tysOk.get rfl) rfl (tysOk.get rfl) rfl rfl rfl rfl rfl (by repeat (first | exact BuildP.nil | ((apply BuildP.one); (rfl); (rfl); (first | rfl | assumption); (repeat (first | exact SetL.z | apply SetL.s))) | ((apply BuildP.many); (rfl); (rfl); (rfl); (rfl); (repeat (first | exact PutL.nil | ((apply PutL.cons); (repeat (first | exact SetL.z | apply SetL.s)))))))) rfl (fun b => ?_))))) | (with_reducible first | apply Tr.next | apply Tr.seq | apply Tr.region | apply Tr.nil | apply Tr.skip | apply Tr.block) | (refine Tr.cond_t rfl (by first | (with_reducible assumption) | (with_reducible rfl) | (with_reducible exact (not_not_intro rfl)) | omega) ?_)))
      ((refine Tr.step rfl ?_))
      refine Exec.append (news := byteV [x]) rfl rfl (tysOk.get rfl) rfl (tysOk.get rfl) rfl rfl rfl rfl (by repeat (first | exact Del.here | apply Del.there)) (Src.box (by repeat (first | exact Has.here | apply Has.there))) rfl (byteV_one _) (by omega) (by omega) rfl (fun R2 r2 hr2 => ?_)
      refine gvQ (r := box _ 5 _) (k := ?_)
      rw [← byteV_append, show (clF (jk.take i)).length + 1 = (clF (jk.take (i + 1))).length by rw [hct, List.length_append]; rfl, ← hct]
      (repeat (first | ((with_reducible refine Tr.step rfl ?_); (first | (refine xmQ (z := ?_)) | (refine xaQ (z := ?_)) | (refine xdQ (z := ?_)))) | (with_reducible first | apply Tr.next | apply Tr.region | apply Tr.nil | apply Tr.in_normal)))
      refine Tr.again (i + 1, R2, r2) ⟨by simp only; omega, hr2⟩ (by simp only; omega) hsQ
  have e : i = jk.length := by omega
  subst e
  rw [List.take_of_length_le (Nat.le_refl _)]
  rw [List.take_of_length_le (Nat.le_refl _)] at hcl
  have hcok := clF_ok jk
  generalize clF jk = cl at *
  refine pbQ (r := ownS 5 1 R _ _ _) (k := fun M5 hm5 hok5 => ?_)
  have hc5 := BSl.ofOwn hok5 rfl hrc
  have hcap5 := hc5.cap
  replace hl := RFrms.up hl hm5
  replace hK := hK.mono hm5
  (repeat (first | ((with_reducible refine Tr.step rfl ?_); (first | (refine xmQ (z := ?_)) | (refine xnQ (z := ?_)) | (refine xiQ (z := ?_)) | ((with_reducible refine Knd.buildSlice ?_); (refine Exec.buildSlice (tysOk.get rfl) rfl (tysOk.get rfl) rfl rfl rfl rfl rfl (by repeat (first | exact BuildP.nil | ((apply BuildP.one); (rfl); (rfl); (first | rfl | assumption); (repeat (first | exact SetL.z | apply SetL.s))) | ((apply BuildP.many); (rfl); (rfl); (rfl); (rfl); (repeat (first | exact PutL.nil | ((apply PutL.cons); (repeat (first | exact SetL.z | apply SetL.s)))))))) rfl (fun b => ?_))))) | (with_reducible first | apply Tr.next | apply Tr.seq | apply Tr.region | apply Tr.nil | apply Tr.exit | apply Tr.then_exit) | ((with_reducible refine Tr.in_exit ?_ ?_); (exact rfl)) | (refine Tr.cond_f rfl (by first | (with_reducible assumption) | (with_reducible rfl) | (with_reducible exact (not_not_intro rfl)) | omega) ?_)))
  refine Tr.cells (b := b) (cs' := byteV []) (by repeat (first | exact Upd.here | apply Upd.there)) rfl ?_
  refine Tr.box_own 1 0 (by repeat (first | exact Upd.here | apply Upd.there)) rfl (byteV_one _) (by simp [maxLen]) ?_
  ((refine Tr.step rfl ?_))
  refine Exec.append (news := byteV cl) rfl rfl (tysOk.get rfl) rfl (tysOk.get rfl) rfl rfl rfl rfl (by repeat (first | exact Del.here | apply Del.there)) (Src.row hcap5.2.2.2) (by simp) (byteV_one _) (by omega) (by omega) rfl (fun R1 r1 hr1 => ?_)
  rw [← byteV_append, List.nil_append, Nat.zero_add]
  (repeat (first | ((with_reducible refine Tr.step rfl ?_); (first | (refine xmQ (z := ?_)) | (refine xaQ (z := ?_)))) | (with_reducible first | apply Tr.next | apply Tr.seq | apply Tr.region | apply Tr.nil)))
  ((refine Tr.step rfl ?_)); refine Exec.call0 rfl (joined_fn M5 hK l A ca hl (by omega)) rfl ?_
  rintro _ M6 hm6 ⟨A6, c6, A7, c7, A8, c8, rfl, hx6, hl7, hi8⟩
  replace hc5 := hc5.mono hm6
  replace hK := hK.mono hm6
  have hvok : ∀ f ∈ l.filter (fun f => decide (okF f)), okF f := fun f hf => of_decide_eq_true (List.mem_filter.1 hf).2
  have hvl : (l.filter (fun f => decide (okF f))).length ≤ 8 := Nat.le_trans (List.length_filter_le _ _) hl8
  generalize l.filter (fun f => decide (okF f)) = v at *
  (repeat (first | ((with_reducible refine Tr.step rfl ?_); (first | (refine xmQ (z := ?_)) | (refine xaQ (z := ?_)) | ((with_reducible refine Knd.extract ?_); (refine Exec.stab rfl (Stab.extract rfl rfl) rfl ?_)))) | (with_reducible first | apply Tr.next | apply Tr.seq | apply Tr.region | apply Tr.nil | apply Tr.block)))
  generalize hR0 : R = Rc at *
  generalize hr0 : rc = rcc at *
  clear hR0 hr0 hi hlt
  have hcap7 : cl.length ≤ 200 := by omega
  refine Tr.loop (α := Nat × List UInt8 × Option Addr × Nat × Mem) (fun y => ⟨148, [(19, .int .i64 (y.1 : Int)), (17, .slice A7 v.length c7), (15, .slice y.2.2.1 y.2.1.length y.2.2.2.1), (13, .slice Rc cl.length rcc), (6, .bool false)], [], y.2.2.2.2, ownS 5 1 y.2.2.1 y.2.1.length y.2.2.2.1 (byteV y.2.1) :: ([] ++ F)⟩) (fun y => y.1 ≤ v.length ∧ y.2.2.2.1 ≤ 9223372036854775807 ∧ y.2.1 = gapF cl (v.take y.1) ∧ Mem.le M6 y.2.2.2.2) (fun y => v.length - y.1) (0, cl, R1, r1, M6) ⟨Nat.zero_le _, hr1, by simp [gapF], Mem.le.refl _⟩ hsQ (fun y hy => ?_)
  obtain ⟨i, w, R, rc, M7⟩ := y
  obtain ⟨hi, hrc, hw, hm7⟩ := hy
  dsimp only at hi hrc hw hm7 ⊢
  have htok : ∀ f ∈ v.take i, okF f := fun f hf => hvok f (List.mem_of_mem_take hf)
  have hgl := gap_le cl hcap7 (v.take i) htok
  rw [← hw, List.length_take] at hgl
  have hmin : min i v.length ≤ 8 := Nat.le_trans (Nat.min_le_right _ _) hvl
  have hgl2 : w.length ≤ 600000 := Nat.le_trans hgl (Nat.le_trans (Nat.add_le_add_left (Nat.mul_le_mul_right _ hmin) _) (by decide))
  clear hgl
  replace hc5 := hc5.mono hm7
  replace hK := hK.mono hm7
  by_cases hlt : i < v.length
  · obtain ⟨x, hx⟩ := get_of_lt hlt
    obtain ⟨hA, ch, hat, Ax, kx, rfl, hbx, hkx⟩ := (RFrms.up hl7 hm7).elem hx
    have hok : okF x := hvok x (List.mem_of_getElem? hx)
    have e : encFr x = (encB TF x, 0) := by rw [encFr, if_pos hok]
    (repeat (first | ((with_reducible refine Tr.step rfl ?_); (first | (refine xmQ (z := ?_)) | ((with_reducible refine Knd.load ?_); (refine Exec.stab rfl (Stab.loadMA rfl (tysOk.get rfl) rfl (by assumption) (by first | rfl | assumption)) rfl ?_)) | (refine xnQ (z := ?_)) | (refine xiQ (z := ?_)) | (refine xxQ (z := ?_)))) | (with_reducible first | apply Tr.next | apply Tr.seq | apply Tr.region | apply Tr.nil | apply Tr.skip | apply Tr.block) | (refine Tr.cond_t rfl (by first | (with_reducible assumption) | (with_reducible rfl) | (with_reducible exact (not_not_intro rfl)) | omega) ?_)))
    ((refine Tr.step rfl ?_)); refine Exec.call0 rfl (encode_fr M7 hK _ _ x hbx) rfl ?_
    rintro _ M8 hm8 ⟨A9, c9, rfl, hx9⟩
    rw [e] at hx9 ⊢
    dsimp only at hx9 ⊢
    have hcap9 := hx9.cap
    have hex := encB_length TF_len x
    have hxl := hok.2
    replace hc5 := hc5.mono hm8
    have hcapc := hc5.cap
    (repeat (first | ((with_reducible refine Tr.step rfl ?_); (first | (refine xmQ (z := ?_)) | (refine xaQ (z := ?_)) | ((with_reducible refine Knd.extract ?_); (refine Exec.stab rfl (Stab.extract rfl rfl) rfl ?_)))) | (with_reducible first | apply Tr.next | apply Tr.region | apply Tr.nil)))
    ((refine Tr.step rfl ?_))
    refine Exec.append (news := byteV (encB TF x)) rfl rfl (tysOk.get rfl) rfl (tysOk.get rfl) rfl rfl rfl rfl (by repeat (first | exact Del.here | apply Del.there)) (Src.row hcap9.2.2.2) (by simp) (byteV_one _) (by omega) (by omega) rfl (fun R2 r2 hr2 => ?_)
    (repeat (((with_reducible refine Tr.step rfl ?_); (with_reducible refine Knd.move ?_); (refine xmQ (z := ?_)))))
    ((refine Tr.step rfl ?_))
    refine Exec.append (A := R2) (news := byteV cl) rfl rfl (tysOk.get rfl) rfl (tysOk.get rfl) rfl rfl rfl rfl (by repeat (first | exact Del.here | apply Del.there)) (Src.row hcapc.2.2.2) (by simp) (byteV_one _) (by omega) (by omega) rfl (fun R3 r3 hr3 => ?_)
    rw [← byteV_append, ← byteV_append, show w.length + (encB TF x).length + cl.length = (w ++ encB TF x ++ cl).length by simp only [List.length_append]]
    (repeat (first | ((with_reducible refine Tr.step rfl ?_); (first | (refine xmQ (z := ?_)) | (refine xaQ (z := ?_)) | (refine xdQ (z := ?_)))) | (with_reducible first | apply Tr.next | apply Tr.region | apply Tr.nil | apply Tr.in_normal)))
    refine Tr.again (i + 1, w ++ encB TF x ++ cl, R3, r3, M8) ⟨by simp only; omega, hr3, ?_, hm7.trans hm8⟩ (by simp only; omega) hsQ
    dsimp only
    rw [hw, List.take_add_one, hx, Option.toList_some, gapF_snoc]
  have e : i = v.length := by omega
  subst e
  rw [List.take_of_length_le (Nat.le_refl _)] at hw
  refine pbQ (r := ownS 5 1 R _ _ _) (k := fun M8 hm8 hok8 => ?_)
  have hw8 := BSl.ofOwn hok8 rfl hrc
  replace hK := hK.mono hm8
  have hsc : scanF TF w = (v, cl.length * (v.length + 1)) := by rw [hw]; exact scan_all TF_len hcok v hvok
  have hmu : cl.length * (v.length + 1) ≤ 200 * 9 := Nat.mul_le_mul hcap7 (by omega)
  (repeat (first | ((with_reducible refine Tr.step rfl ?_); (first | (refine xmQ (z := ?_)) | (refine xnQ (z := ?_)) | (refine xiQ (z := ?_)))) | (with_reducible first | apply Tr.next | apply Tr.seq | apply Tr.region | apply Tr.nil | apply Tr.exit | apply Tr.then_exit) | ((with_reducible refine Tr.in_exit ?_ ?_); (exact rfl)) | (refine Tr.cond_f rfl (by first | (with_reducible assumption) | (with_reducible rfl) | (with_reducible exact (not_not_intro rfl)) | omega) ?_)))
  ((refine Tr.step rfl ?_)); refine Exec.call0 rfl (scan_fn M8 hK R rc w hw8 (by omega)) rfl ?_
  rintro _ M9 hm9 hR
  rw [hsc, RScan] at hR
  obtain ⟨A10, c10, rfl, hl10⟩ := hR
  dsimp only at hl10 ⊢
  have hv9 := RFrms.up (RFrms.up (RFrms.up hl7 hm7) hm8) hm9
  (repeat (first | ((with_reducible refine Tr.step rfl ?_); (first | (refine xmQ (z := ?_)) | (refine xaQ (z := ?_)) | ((with_reducible refine Knd.extract ?_); (refine Exec.stab rfl (Stab.extract rfl rfl) rfl ?_)))) | (with_reducible first | apply Tr.next | apply Tr.seq | apply Tr.region | apply Tr.nil)))
  ((refine Tr.step rfl ?_)); refine Exec.call0 rfl (rsameFrames_fn M9 v v A10 A7 c10 c7 hl10 hv9) rfl ?_
  rintro _ _ _ ⟨rfl, rfl⟩
  rw [decide_eq_true rfl]
  have hmi : (cl.length : Int) * ((v.length : Int) + 1) = ((cl.length * (v.length + 1) : Nat) : Int) := by rw [Int.natCast_mul]; rfl
  (repeat (first | ((with_reducible refine Tr.step rfl ?_); (first | (refine xmQ (z := ?_)) | (refine xaQ (z := ?_)) | ((with_reducible refine Knd.pick ?_); (refine Exec.stab rfl (Stab.pick_t rfl (by first | (with_reducible rfl) | (with_reducible assumption) | (with_reducible exact Bool.not_true) | (with_reducible exact Bool.not_false)) rfl) rfl ?_)))) | (with_reducible first | apply Tr.next | apply Tr.nil) | ((refine Tr.guard_l rfl rfl rfl (by first | (with_reducible rfl) | (with_reducible assumption) | (with_reducible exact Bool.not_true) | (with_reducible exact Bool.not_false)) ?_); (first | (refine xmQ (z := ?_)) | (refine xnQ (z := ?_)) | ((with_reducible refine Knd.binOp ?_); (first | (refine xdQ (z := ?_)) | (refine Exec.stab rfl (Stab.muli rfl rfl (by omega)) rfl ?_) | (refine xiQ (z := ?_)))))) | (with_reducible refine Tr.ret ?_)))
  rw [hmi, decide_eq_true rfl]
  have hmm : M.le M9 := hm1.trans (hm3.trans (hm4.trans (hm5.trans (hm6.trans (hm7.trans (hm8.trans hm9))))))
  (refine dnQ (hL := by exact ⟨[], rfl⟩) (k := ⟨rfl, ?_⟩))
  rfl
end Go.Proofs.YtghjhdbmkilakaaDoor

/-
  Frames: the tied card of FramesScan.
  Conditions: none.
-/
namespace Go.Proofs.YtghjhdbmkilakaaDoor
open Go Bf
open Go.ChangeShapes Go.WideShapes Go.ChangeAt Go.RowKit
set_option maxRecDepth 100000 in
theorem framesScan_lifted (os : Os) (started : os.Started) (H : Type) (enc : TypeId × Value → H) :
    ReturnsInHanded {} Tryd.checked os 6 .any (fun w args => (Rows.framesScanSpec.pre enc Tryd.prog Tryd.f6 [] false w args ∧ laidMetH Tryd.prog [("backflush/digest.constants", .agg (kI.map fun x => .lit (.int .u32 x)))] w) ∧ sizedMet enc Tryd.prog Tryd.f6 (OpenSpec.ofChange Rows.framesScanSpec) false w args) (Rows.framesScanSpec.post enc Tryd.prog Tryd.f6 false true false false) :=
  lift_true_laid (C := Tryd.checked) (ts := [22, 29, 22]) (tb := 4) (name := "backflush/digest.constants") (g := 0) (ns := kI) started ownT' (by kernel_rfl) Tryd.func6
    (ChangeSpec.witness_shaped (enc := enc) (C := Tryd.checked) (os := os) (X := fun w _ => laidMetH Tryd.prog [("backflush/digest.constants", .agg (kI.map fun x => .lit (.int .u32 x)))] w) false (World.doorLaid Tryd.prog 400 os) #[.slice none 0 0, .slice none 0 0, .slice none 0 0] 8 rfl (World.shaped_of_RefB (by kernel_rfl) (by kernel_rfl)) (by kernel_rfl) (by kernel_rfl) (by kernel_rfl) (door_met os _))
    (by rw [Tryd.params6]) laidT' (by kernel_rfl) rfl (fun ds h => match ds, h with | [_, _, _], _ => rfl) rfl Tryd.underlying4
    gK (by kernel_rfl) u137 u116 c116 (by decide)
    (fun W base vs hK0 hl ha => by
      have hK := kI_at hK0
      obtain ⟨v0, v1, v2, rfl⟩ := len3 hl
      obtain ⟨a, aA, ac, rfl, qa⟩ := arg_bytes (ha 0 22 v0 rfl rfl)
      obtain ⟨b, bA, bc, rfl, qb⟩ := arg_frms (ha 1 29 v1 rfl rfl)
      obtain ⟨c, cA, cc, rfl, qc⟩ := arg_bytes (ha 2 22 v2 rfl rfl)
      exact law6_fn _ hK aA bA cA ac bc cc a b c qa qb qc)
theorem framesScan_row : Rows.FramesScanSaid :=
  OpenClaim.holds_of_wide 6 Tryd.f6 rfl rfl rfl rfl rfl rfl rfl ⟨rfl, rfl, rfl, rfl, rfl⟩ rfl rfl rfl rfl rfl (by kernel_rfl) Tryd.func6 (by kernel_rfl)
    (of_decide_eq_true (by kernel_rfl)) (by unfold Func.isWrapper; first | (rw [if_pos (by decide +kernel)]; kernel_rfl) | (rw [if_neg (by decide +kernel)]; exact ⟨rfl, rfl⟩))
    (fun os started H enc _ => by
      have h := framesScan_lifted os started H enc
      rw [kI_laid] at h
      exact h)
theorem framesScan_holds : Rows.FramesScanCardSaid :=
  Claim7.holds_tied_plain_at .later [] [.data] true Rows.framesScanCard.stood.harness false
    framesScan_row (fun _ h => by cases h) (by kernel_rfl) (fun _ h => by cases h) framesScan_row_tie rfl ⟨rfl, rfl⟩ (by kernel_rfl) rfl
    (fun f fn hf hfn => by
      obtain rfl : f = 6 := Option.some.inj ((show Tryd.prog.funcNamed "backflush/backflushlaw47.FramesScan" = some 6 by kernel_rfl).symm.trans hf) |>.symm
      obtain rfl : fn = Tryd.f6 := (Option.some.inj (Tryd.func6.symm.trans hfn)).symm
      exact ⟨by kernel_rfl, fun j t ht => by
        rw [Tryd.params6] at ht
        have hm : t ∈ [22, 29, 22] := by simpa using Array.mem_of_getElem? ht
        have hall : ([22, 29, 22].all fun u => !Tryd.prog.wantsStandIn u) = true := by kernel_rfl
        exact (show Tryd.prog.wantsStandIn t = false by simpa using List.all_eq_true.1 hall t hm)⟩)
    (by kernel_rfl)
end Go.Proofs.YtghjhdbmkilakaaDoor

/-
  Frames: the law FramesMessages.
  Conditions: none.
-/
namespace Go.Proofs.YtghjhdbmkilakaaDoor
open Go Bf
attribute [local irreducible] Tr Exec Stab HasTy Go.Addr.add IntKind.wrap
attribute [local irreducible] encFr readF scanF TF flatF packF unpackF
theorem RMsg.len43 {M : Mem} {cs : List Value} {m : Msg} (h : RMsg M cs m) : cs.length = 43 := by
  obtain ⟨⟨h0, h1, h2, h3, h4, h5, h6, A, c, B, d, C, e, pe, rfl, p1, p2, p3⟩, pw, -⟩ := h
  have psl2 : (byteV m.sl).length = 32 := by simpa using pw.1
  simp only [List.length_cons, psl2]
theorem RMsg.allOne {M : Mem} {cs : List Value} {m : Msg} (h : RMsg M cs m) : AllOne cs := by
  obtain ⟨⟨h0, h1, h2, h3, h4, h5, h6, A, c, B, d, C, e, pe, rfl, p1, p2, p3⟩, pw, -⟩ := h
  exact .cons rfl (.cons rfl (.cons rfl (.cons rfl (.cons rfl (.cons rfl (.cons rfl (.cons rfl (.cons rfl (.cons rfl (.cons rfl (.bytes _)))))))))))
theorem pack_cases (m : Msg) : (∃ x, packF TF m = (x, 0) ∧ 10 ≤ x.length ∧ x.length ≤ 65546) ∨ packF TF m = ([], 470) := by
  unfold packF
  by_cases h : rightM m ∧ (enc (msgV m)).length ≤ 65536
  · rw [if_pos h]
    refine .inl ⟨_, rfl, ?_⟩
    rw [encB_length TF_len]
    exact ⟨by simp only; omega, by simp only; omega⟩
  · rw [if_neg h]
    exact .inr rfl
set_option maxHeartbeats 8000000 in
theorem law7_fn (M : Mem) (hK : Tab M) (m : Msg) (u : List Value) (B J : Option Addr) (k cj cut : Nat) (bs mo : List UInt8) (hcut : cut < 18446744073709551616) (hm : RMsg M u m) (hb : BSl M (.slice B bs.length k) bs) (hj : BSl M (.slice J mo.length cj) mo) :
    Fn0 Tryd.prog 7 [.agg u.toArray, .slice B bs.length k, .int .u64 cut, .slice J mo.length cj] M (fun r _ => r = .bool true) := by
  have hbl := hb.len_le
  have hjl := hj.len_le
  have hz := zMsg_len
  have haz := (zMsg_R M).allOne
  have hul := hm.len43
  have pw := hm.w
  refine Fn.intro Tryd.func7 rfl rfl Tryd.ntmps7 rfl fun E F => ?_
  (repeat (first | ((with_reducible refine Tr.step rfl ?_); (first | (refine xaQ (z := ?_)) | ((with_reducible refine Knd.box ?_); (refine Exec.box rfl rfl (fun b => ?_))))) | (with_reducible first | apply Tr.next | apply Tr.seq | apply Tr.region | apply Tr.nil)))
  ((refine Tr.step rfl ?_)); refine Exec.call0 rfl (sane_fn M hK) rfl ?_
  rintro _ M1 hm1 rfl
  replace hb := hb.mono hm1
  replace hj := hj.mono hm1
  replace hm := hm.mono hm1
  replace hK := hK.mono hm1
  (repeat (first | ((with_reducible refine Tr.step rfl ?_); (first | ((with_reducible refine Knd.load ?_); (refine Exec.stab rfl (Stab.loadW rfl (tysOk.get rfl) rfl (by repeat (first | exact Has.here | apply Has.there)) (by assumption)) rfl ?_)) | ((with_reducible refine Knd.unOp ?_); (refine Exec.stab rfl (Stab.not rfl) rfl ?_)))) | (with_reducible first | apply Tr.next | apply Tr.seq | apply Tr.region | apply Tr.nil | apply Tr.skip) | (refine Tr.cond_bf rfl (by first | (with_reducible rfl) | (with_reducible assumption) | (with_reducible exact Bool.not_true) | (with_reducible exact Bool.not_false)) ?_)))
  ((refine Tr.step rfl ?_)); refine Exec.call0 rfl (few_fn M1 m u hm) rfl ?_
  rintro _ M2 hm2 ⟨⟨fb, rfl⟩, rfl⟩
  cases fb with
  | false =>
    (repeat (first | ((with_reducible refine Tr.step rfl ?_); (first | (refine xmQ (z := ?_)) | (refine xaQ (z := ?_)) | ((with_reducible refine Knd.pick ?_); (refine Exec.stab rfl (Stab.pick_t rfl (by first | (with_reducible rfl) | (with_reducible assumption) | (with_reducible exact Bool.not_true) | (with_reducible exact Bool.not_false)) rfl) rfl ?_)) | ((with_reducible refine Knd.unOp ?_); (refine Exec.stab rfl (Stab.not rfl) rfl ?_)))) | (with_reducible first | apply Tr.next | apply Tr.seq | apply Tr.region | apply Tr.nil) | (refine Tr.guard_s0 rfl rfl rfl (by first | (with_reducible rfl) | (with_reducible assumption) | (with_reducible exact Bool.not_true) | (with_reducible exact Bool.not_false)) rfl rfl ?_) | (with_reducible first | apply Tr.ret | apply Tr.then_ret) | (refine Tr.cond_bt rfl (by first | (with_reducible rfl) | (with_reducible assumption) | (with_reducible exact Bool.not_true) | (with_reducible exact Bool.not_false)) ?_)))
    (refine dnQ (hL := by exact ⟨[_], rfl⟩) (k := ⟨rfl, ?_⟩))
    rfl
  | true =>
  by_cases h1 : bs.length ≤ 3000
  case neg =>
    (repeat (first | ((with_reducible refine Tr.step rfl ?_); (first | (refine xmQ (z := ?_)) | (refine xaQ (z := ?_)) | ((with_reducible refine Knd.pick ?_); (first | (refine Exec.stab rfl (Stab.pick_f rfl (by first | (with_reducible rfl) | (with_reducible assumption) | (with_reducible exact Bool.not_true) | (with_reducible exact Bool.not_false)) rfl) rfl ?_) | (refine Exec.stab rfl (Stab.pick_td rfl (by first | (with_reducible assumption) | (with_reducible rfl) | (with_reducible exact (not_not_intro rfl)) | omega) rfl) rfl ?_))) | ((with_reducible refine Knd.unOp ?_); (refine Exec.stab rfl (Stab.not rfl) rfl ?_)))) | (with_reducible first | apply Tr.next | apply Tr.seq | apply Tr.region | apply Tr.nil) | ((refine Tr.guard_l rfl rfl rfl (by first | (with_reducible rfl) | (with_reducible assumption) | (with_reducible exact Bool.not_true) | (with_reducible exact Bool.not_false)) ?_); (first | (refine xmQ (z := ?_)) | (refine xnQ (z := ?_)) | (refine xiQ (z := ?_)))) | (refine Tr.guard_n' rfl rfl rfl (by first | (with_reducible assumption) | (with_reducible rfl) | (with_reducible exact (not_not_intro rfl)) | omega) rfl rfl ?_) | (with_reducible first | apply Tr.ret | apply Tr.then_ret) | (refine Tr.cond_bt rfl (by first | (with_reducible rfl) | (with_reducible assumption) | (with_reducible exact Bool.not_true) | (with_reducible exact Bool.not_false)) ?_)))
    (refine dnQ (hL := by exact ⟨[_], rfl⟩) (k := ⟨rfl, ?_⟩))
    rfl
  by_cases h2 : mo.length ≤ 100
  case neg =>
    (repeat (first | ((with_reducible refine Tr.step rfl ?_); (first | (refine xmQ (z := ?_)) | (refine xaQ (z := ?_)) | ((with_reducible refine Knd.pick ?_); (first | (refine Exec.stab rfl (Stab.pick_f rfl (by first | (with_reducible rfl) | (with_reducible assumption) | (with_reducible exact Bool.not_true) | (with_reducible exact Bool.not_false)) rfl) rfl ?_) | (refine Exec.stab rfl (Stab.pick_fd rfl (by first | (with_reducible assumption) | (with_reducible rfl) | (with_reducible exact (not_not_intro rfl)) | omega) rfl) rfl ?_))) | ((with_reducible refine Knd.unOp ?_); (refine Exec.stab rfl (Stab.not rfl) rfl ?_)))) | (with_reducible first | apply Tr.next | apply Tr.seq | apply Tr.region | apply Tr.nil) | ((refine Tr.guard_l rfl rfl rfl (by first | (with_reducible rfl) | (with_reducible assumption) | (with_reducible exact Bool.not_true) | (with_reducible exact Bool.not_false)) ?_); (first | (refine xmQ (z := ?_)) | (refine xnQ (z := ?_)) | (refine xiQ (z := ?_)))) | ((refine Tr.guard_y' rfl rfl rfl (by first | (with_reducible assumption) | (with_reducible rfl) | (with_reducible exact (not_not_intro rfl)) | omega) ?_); (first | (refine xmQ (z := ?_)) | (refine xnQ (z := ?_)) | (refine xiQ (z := ?_)))) | (with_reducible first | apply Tr.ret | apply Tr.then_ret) | (refine Tr.cond_t rfl (by first | (with_reducible assumption) | (with_reducible rfl) | (with_reducible exact (not_not_intro rfl)) | omega) ?_)))
    (refine dnQ (hL := by exact ⟨[_], rfl⟩) (k := ⟨rfl, ?_⟩))
    rfl
  (repeat (first | ((with_reducible refine Tr.step rfl ?_); (first | (refine xmQ (z := ?_)) | ((with_reducible refine Knd.load ?_); (refine Exec.stab rfl (Stab.loadW rfl (tysOk.get rfl) rfl (by repeat (first | exact Has.here | apply Has.there)) (by assumption)) rfl ?_)) | ((with_reducible refine Knd.pick ?_); (first | (refine Exec.stab rfl (Stab.pick_f rfl (by first | (with_reducible rfl) | (with_reducible assumption) | (with_reducible exact Bool.not_true) | (with_reducible exact Bool.not_false)) rfl) rfl ?_) | (refine Exec.stab rfl (Stab.pick_fd rfl (by first | (with_reducible assumption) | (with_reducible rfl) | (with_reducible exact (not_not_intro rfl)) | omega) rfl) rfl ?_))) | ((with_reducible refine Knd.unOp ?_); (refine Exec.stab rfl (Stab.not rfl) rfl ?_)))) | (with_reducible first | apply Tr.next | apply Tr.seq | apply Tr.region | apply Tr.nil) | ((refine Tr.guard_l rfl rfl rfl (by first | (with_reducible rfl) | (with_reducible assumption) | (with_reducible exact Bool.not_true) | (with_reducible exact Bool.not_false)) ?_); (first | (refine xmQ (z := ?_)) | (refine xnQ (z := ?_)) | (refine xiQ (z := ?_)))) | ((refine Tr.guard_y' rfl rfl rfl (by first | (with_reducible assumption) | (with_reducible rfl) | (with_reducible exact (not_not_intro rfl)) | omega) ?_); (first | (refine xmQ (z := ?_)) | (refine xnQ (z := ?_)) | (refine xiQ (z := ?_)))) | (with_reducible refine Tr.skip ?_) | (refine Tr.cond_f rfl (by first | (with_reducible assumption) | (with_reducible rfl) | (with_reducible exact (not_not_intro rfl)) | omega) ?_)))
  ((refine Tr.step rfl ?_)); refine Exec.call0 rfl (pack_fn M1 hK m u hm) rfl ?_
  rintro _ M3 hm3 ⟨A3, c3, rfl, hx⟩
  replace hb := hb.mono hm3
  replace hj := hj.mono hm3
  replace hm := hm.mono hm3
  replace hK := hK.mono hm3
  rcases pack_cases m with ⟨x, hp, hx1, hx2⟩ | hp
  · rw [hp] at hx ⊢
    dsimp only at hx ⊢
    have hup := unpack_pack TF_len pw hp
    (repeat (first | ((with_reducible refine Tr.step rfl ?_); (first | (refine xmQ (z := ?_)) | (refine xaQ (z := ?_)) | (refine xiQ (z := ?_)) | ((with_reducible refine Knd.extract ?_); (refine Exec.stab rfl (Stab.extract rfl rfl) rfl ?_)))) | (with_reducible first | apply Tr.next | apply Tr.seq | apply Tr.region | apply Tr.nil) | (refine Tr.cond_t rfl (by first | (with_reducible assumption) | (with_reducible rfl) | (with_reducible exact (not_not_intro rfl)) | omega) ?_)))
    ((refine Tr.step rfl ?_)); refine Exec.call0 rfl (unpack_fn M3 hK A3 c3 x hx) rfl ?_
    rintro r M4 hm4 hR
    rw [hup] at hR
    obtain ⟨cs, rfl, hM⟩ := hR
    have hcl := hM.len43
    have hao := hM.allOne
    replace hb := hb.mono hm4
    replace hj := hj.mono hm4
    replace hx := hx.mono hm4
    replace hm := hm.mono hm4
    replace hK := hK.mono hm4
    (repeat (first | ((with_reducible refine Tr.step rfl ?_); (first | (refine xmQ (z := ?_)) | (refine xaQ (z := ?_)) | (refine xiQ (z := ?_)) | ((with_reducible refine Knd.store ?_); (refine Exec.storeW rfl rfl (tysOk.get rfl) (by repeat (first | exact Upd.here | apply Upd.there)) (by first | rfl | assumption) (by first | rfl | assumption) (by first | exact AllOne.bytes _ | exact AllOne.words _ | exact (by repeat (first | (with_reducible assumption) | exact AllOne.nil | exact AllOne.bytes _ | refine AllOne.cons (by first | rfl | assumption) ?_))) ?_)) | ((with_reducible refine Knd.alloc ?_); (refine Exec.alloc (tysOk.get rfl) rfl rfl (fun b => ?_))) | ((with_reducible refine Knd.extract ?_); (refine Exec.stab rfl (Stab.extract rfl rfl) rfl ?_)))) | (with_reducible first | apply Tr.next | apply Tr.seq | apply Tr.region | apply Tr.nil) | ((refine Tr.guard_y' rfl rfl rfl (by first | (with_reducible assumption) | (with_reducible rfl) | (with_reducible exact (not_not_intro rfl)) | omega) ?_); (with_reducible refine Knd.load ?_); (refine Exec.stab rfl (Stab.loadW rfl (tysOk.get rfl) rfl (by repeat (first | exact Has.here | apply Has.there)) (by assumption)) rfl ?_))))
    ((refine Tr.guard_y' rfl rfl rfl (by first | (with_reducible assumption) | (with_reducible rfl) | (with_reducible exact (not_not_intro rfl)) | omega) ?_)); refine Exec.call0 rfl (rsame_fn M4 m m u cs hm hM) rfl ?_
    rintro _ _ _ ⟨rfl, rfl⟩
    rw [decide_eq_true rfl]
    have hxc := hx.cap
    have hkl := Nat.mod_lt cut (show 0 < x.length by omega)
    (repeat (first | ((with_reducible refine Tr.step rfl ?_); (first | (refine xmQ (z := ?_)) | (refine xaQ (z := ?_)) | (refine xnQ (z := ?_)) | ((with_reducible refine Knd.binOp ?_); (refine Exec.stab rfl (Stab.remp rfl rfl (by omega) (by omega)) rfl ?_)) | ((with_reducible refine Knd.pick ?_); (first | (refine Exec.stab rfl (Stab.pick_f rfl (by first | (with_reducible rfl) | (with_reducible assumption) | (with_reducible exact Bool.not_true) | (with_reducible exact Bool.not_false)) rfl) rfl ?_) | (refine Exec.stab rfl (Stab.pick_fd rfl (by first | (with_reducible assumption) | (with_reducible rfl) | (with_reducible exact (not_not_intro rfl)) | omega) rfl) rfl ?_))) | ((with_reducible refine Knd.convert ?_); (first | (refine Exec.stab rfl (Stab.convu64 rfl (tysOk.get rfl) (tysOk.get rfl) rfl rfl (by omega)) rfl ?_) | (refine Exec.stab rfl (Stab.convi rfl (tysOk.get rfl) (tysOk.get rfl) rfl rfl (by omega)) rfl ?_))) | ((with_reducible refine Knd.slice ?_); (refine Exec.stab rfl (Stab.slice_h rfl rfl (tysOk.get rfl) rfl (tysOk.get rfl) (by omega) (by omega)) rfl ?_)))) | (with_reducible first | apply Tr.next | apply Tr.seq | apply Tr.region | apply Tr.nil) | ((refine Tr.guard_l rfl rfl rfl (by first | (with_reducible rfl) | (with_reducible assumption) | (with_reducible exact Bool.not_true) | (with_reducible exact Bool.not_false)) ?_); (first | (refine xmQ (z := ?_)) | (refine xnQ (z := ?_)) | (refine xiQ (z := ?_)))) | ((refine Tr.guard_y' rfl rfl rfl (by first | (with_reducible assumption) | (with_reducible rfl) | (with_reducible exact (not_not_intro rfl)) | omega) ?_); (with_reducible refine Knd.unOp ?_); (refine Exec.stab rfl (Stab.not rfl) rfl ?_)) | (with_reducible refine Tr.skip ?_) | (refine Tr.cond_f rfl (by first | (with_reducible assumption) | (with_reducible rfl) | (with_reducible exact (not_not_intro rfl)) | omega) ?_)))
    rw [show (cut : Int) % (x.length : Int) = ((cut % x.length : Nat) : Int) from (Int.natCast_emod _ _).symm]
    generalize cut % x.length = kk at *
    have hltk : (x.take kk).length = kk := by rw [List.length_take]; omega
    have hpre := hx.pre (k := kk) (m := c3) (by omega) (by omega) (Nat.le_refl _)
    have hcall := unpack_fn M4 hK A3 c3 (x.take kk) (by rw [hltk]; exact hpre)
    rw [hltk, unpack_cut TF_len hp hkl] at hcall
    (skip)
    ((refine Tr.step rfl ?_)); refine Exec.call0 rfl (hcall) rfl ?_
    rintro r M6 hm6 hR
    obtain rfl := hR
    replace hb := hb.mono hm6
    replace hj := hj.mono hm6
    replace hx := hx.mono hm6
    replace hK := hK.mono hm6
    have hjc := hj.cap
    have hxc6 := hx.cap
    (repeat (first | ((with_reducible refine Tr.step rfl ?_); (first | (refine xmQ (z := ?_)) | (refine xaQ (z := ?_)) | (refine xiQ (z := ?_)) | ((with_reducible refine Knd.store ?_); (refine Exec.storeW rfl rfl (tysOk.get rfl) (by repeat (first | exact Upd.here | apply Upd.there)) rfl rfl (by repeat (first | (with_reducible assumption) | exact AllOne.nil | exact AllOne.bytes _ | refine AllOne.cons (by first | rfl | assumption) ?_)) ?_)) | ((with_reducible refine Knd.alloc ?_); (refine Exec.alloc (tysOk.get rfl) rfl rfl (fun b => ?_))) | ((with_reducible refine Knd.extract ?_); (refine Exec.stab rfl (Stab.extract rfl rfl) rfl ?_)) | ((with_reducible refine Knd.buildSlice ?_); (refine Exec.buildSlice (tysOk.get rfl) rfl (tysOk.get rfl) rfl rfl rfl rfl rfl (by repeat (first | exact BuildP.nil | ((apply BuildP.one); (rfl); (rfl); (first | rfl | assumption); (repeat (first | exact SetL.z | apply SetL.s))) | ((apply BuildP.many); (rfl); (rfl); (rfl); (rfl); (repeat (first | exact PutL.nil | ((apply PutL.cons); (repeat (first | exact SetL.z | apply SetL.s)))))))) rfl (fun b => ?_))))) | (with_reducible first | apply Tr.next | apply Tr.seq | apply Tr.region | apply Tr.nil | apply Tr.skip) | (refine Tr.cond_f rfl (by first | (with_reducible assumption) | (with_reducible rfl) | (with_reducible exact (not_not_intro rfl)) | omega) ?_)))
    refine Tr.cells (b := b) (cs' := byteV []) (by repeat (first | exact Upd.here | apply Upd.there)) rfl ?_
    refine Tr.box_own 1 0 (by repeat (first | exact Upd.here | apply Upd.there)) rfl (byteV_one _) (by simp [maxLen]) ?_
    ((refine Tr.step rfl ?_))
    refine Exec.append (news := byteV x) rfl rfl (tysOk.get rfl) rfl (tysOk.get rfl) rfl rfl rfl rfl (by repeat (first | exact Del.here | apply Del.there)) (Src.row hxc6.2.2.2) (by simp) (byteV_one _) (by omega) (by omega) rfl (fun R1 r1 hr1 => ?_)
    (repeat (((with_reducible refine Tr.step rfl ?_); (with_reducible refine Knd.move ?_); (refine xmQ (z := ?_)))))
    ((refine Tr.step rfl ?_))
    refine Exec.append (A := R1) (news := byteV mo) rfl rfl (tysOk.get rfl) rfl (tysOk.get rfl) rfl rfl rfl rfl (by repeat (first | exact Del.here | apply Del.there)) (Src.row hjc.2.2.2) (by simp) (byteV_one _) (by omega) (by omega) rfl (fun R2 r2 hr2 => ?_)
    rw [← byteV_append, ← byteV_append, List.nil_append, show 0 + x.length + mo.length = (x ++ mo).length by rw [List.length_append]; omega]
    refine pbQ (r := ownS 5 1 R2 _ _ _) (k := fun M7 hm7 ok7 => ?_)
    have hB7 := BSl.ofOwn ok7 rfl hr2
    replace hb := hb.mono hm7
    replace hK := hK.mono hm7
    ((refine Tr.step rfl ?_)); refine Exec.call0 rfl (unpack_fn M7 hK R2 r2 (x ++ mo) hB7) rfl ?_
    rintro r M8 hm8 hR
    replace hb := hb.mono hm8
    replace hK := hK.mono hm8
    obtain ⟨cs3, g, rfl, hcl3, hao3, hg⟩ : ∃ (cs3 : List Value) (g : Int), r = .tuple #[.agg cs3.toArray, .int .i64 g] ∧ cs3.length = 43 ∧ AllOne cs3 ∧ (g = 0 ↔ (mo.length : Int) = 0) := by
      by_cases hmo : mo = []
      · subst hmo
        rw [List.append_nil, hup] at hR
        obtain ⟨cs3, rfl, hM3⟩ := hR
        exact ⟨cs3, 0, rfl, hM3.len43, hM3.allOne, by simp⟩
      · rw [unpack_more TF_len hp hmo] at hR
        obtain rfl := hR
        refine ⟨zMsg, 470, rfl, hz, haz, ?_⟩
        have : mo.length ≠ 0 := fun e => hmo (List.length_eq_zero_iff.1 e)
        omega
    have hgd : decide (g = 0) = decide ((mo.length : Int) = 0) := decide_eq_decide.2 hg
    (repeat (first | ((with_reducible refine Tr.step rfl ?_); (first | (refine xmQ (z := ?_)) | (refine xaQ (z := ?_)) | (refine xnQ (z := ?_)) | ((with_reducible refine Knd.binOp ?_); (first | (refine xiQ (z := ?_)) | (refine Exec.stab rfl (Stab.boolne rfl rfl (tysOk.get rfl) rfl) rfl ?_))) | ((with_reducible refine Knd.store ?_); (refine Exec.storeW rfl rfl (tysOk.get rfl) (by repeat (first | exact Upd.here | apply Upd.there)) (by first | rfl | assumption) (by first | rfl | assumption) (by first | exact AllOne.bytes _ | exact AllOne.words _ | exact (by repeat (first | (with_reducible assumption) | exact AllOne.nil | exact AllOne.bytes _ | refine AllOne.cons (by first | rfl | assumption) ?_))) ?_)) | ((with_reducible refine Knd.alloc ?_); (refine Exec.alloc (tysOk.get rfl) rfl rfl (fun b => ?_))) | ((with_reducible refine Knd.extract ?_); (refine Exec.stab rfl (Stab.extract rfl rfl) rfl ?_)))) | (with_reducible first | apply Tr.next | apply Tr.seq | apply Tr.region | apply Tr.nil)))
    have hgn : (decide ¬decide (g = 0) = decide ((mo.length : Int) = 0)) = false := by rw [hgd]; simp
    rw [hgn]
    have hm5 := hm1.trans (hm3.trans (hm4.trans (hm6.trans (hm7.trans hm8))))
    clear hg hgd hgn hm1 hm3 hm4 hm6 hm7 hm8
    generalize M8 = M5 at *
    (repeat (first | ((with_reducible refine Tr.step rfl ?_); (with_reducible refine Knd.move ?_); (refine xmQ (z := ?_))) | (with_reducible first | apply Tr.next | apply Tr.seq | apply Tr.region | apply Tr.skip) | (refine Tr.cond_bf rfl (by first | (with_reducible rfl) | (with_reducible assumption) | (with_reducible exact Bool.not_true) | (with_reducible exact Bool.not_false)) ?_)))
    ((refine Tr.step rfl ?_)); refine Exec.call0 rfl (unpack_fn M5 hK B k bs hb) rfl ?_
    rintro r M6 hm6 hR
    replace hb := hb.mono hm6
    replace hK := hK.mono hm6
    cases hu : unpackF TF bs with
    | none =>
      rw [hu] at hR
      obtain rfl := hR
      (repeat (first | ((with_reducible refine Tr.step rfl ?_); (first | (refine xmQ (z := ?_)) | (refine xaQ (z := ?_)) | (refine xiQ (z := ?_)) | ((with_reducible refine Knd.store ?_); (refine Exec.storeW rfl rfl (tysOk.get rfl) (by repeat (first | exact Upd.here | apply Upd.there)) rfl rfl (by repeat (first | (with_reducible assumption) | exact AllOne.nil | exact AllOne.bytes _ | refine AllOne.cons (by first | rfl | assumption) ?_)) ?_)) | ((with_reducible refine Knd.alloc ?_); (refine Exec.alloc (tysOk.get rfl) rfl rfl (fun b => ?_))) | ((with_reducible refine Knd.extract ?_); (refine Exec.stab rfl (Stab.extract rfl rfl) rfl ?_)))) | (with_reducible first | apply Tr.next | apply Tr.seq | apply Tr.region | apply Tr.nil) | ((refine Tr.guard_y rfl rfl rfl (by first | (with_reducible assumption) | (with_reducible rfl) | (with_reducible exact (not_not_intro rfl)) | omega) ?_); (first | (refine xwQ (z := ?_)) | ((with_reducible refine Knd.build ?_); (refine Exec.stab rfl (Stab.build tysOk rfl rfl rfl rfl (by repeat (first | exact BuildP.nil | ((apply BuildP.one); (rfl); (rfl); (first | rfl | assumption); (repeat (first | exact SetL.z | apply SetL.s))) | ((apply BuildP.many); (rfl); (rfl); (rfl); (rfl); (repeat (first | exact PutL.nil | ((apply PutL.cons); (repeat (first | exact SetL.z | apply SetL.s))))))))) rfl ?_)))) | (refine Tr.cond_t rfl (by first | (with_reducible assumption) | (with_reducible rfl) | (with_reducible exact (not_not_intro rfl)) | omega) ?_)))
      ((refine Tr.guard_y rfl rfl rfl (by first | (with_reducible assumption) | (with_reducible rfl) | (with_reducible exact (not_not_intro rfl)) | omega) ?_)); refine Exec.call0 rfl (rsame_fn M6 mZ mZ zMsg zMsg (zMsg_R _) (zMsg_R _)) rfl ?_
      rintro _ _ _ ⟨rfl, rfl⟩
      rw [decide_eq_true rfl]
      (repeat (first | ((with_reducible refine Tr.step rfl ?_); (first | (refine xaQ (z := ?_)) | ((with_reducible refine Knd.pick ?_); (refine Exec.stab rfl (Stab.pick_td rfl (by first | (with_reducible assumption) | (with_reducible rfl) | (with_reducible exact (not_not_intro rfl)) | omega) rfl) rfl ?_)))) | (with_reducible first | apply Tr.next | apply Tr.nil | apply Tr.ret | apply Tr.then_ret)))
      have hmm : M.le M6 := hm5.trans hm6
      (refine dnQ (hL := by exact ⟨[_, _, _, _, _], rfl⟩) (k := ⟨rfl, ?_⟩))
      rfl
    | some m2 =>
      rw [hu] at hR
      obtain ⟨cs2, rfl, hM2⟩ := hR
      have hcl2 := hM2.len43
      have hao2 := hM2.allOne
      have hinv := (unpack_inv hu).1
      (repeat (first | ((with_reducible refine Tr.step rfl ?_); (first | (refine xmQ (z := ?_)) | (refine xaQ (z := ?_)) | ((with_reducible refine Knd.load ?_); (refine Exec.stab rfl (Stab.loadW rfl (tysOk.get rfl) rfl (by repeat (first | exact Has.here | apply Has.there)) (by assumption)) rfl ?_)) | (refine xiQ (z := ?_)) | ((with_reducible refine Knd.store ?_); (refine Exec.storeW rfl rfl (tysOk.get rfl) (by repeat (first | exact Upd.here | apply Upd.there)) (by first | rfl | assumption) (by first | rfl | assumption) (by first | exact AllOne.bytes _ | exact AllOne.words _ | exact (by repeat (first | (with_reducible assumption) | exact AllOne.nil | exact AllOne.bytes _ | refine AllOne.cons (by first | rfl | assumption) ?_))) ?_)) | ((with_reducible refine Knd.alloc ?_); (refine Exec.alloc (tysOk.get rfl) rfl rfl (fun b => ?_))) | ((with_reducible refine Knd.extract ?_); (refine Exec.stab rfl (Stab.extract rfl rfl) rfl ?_)))) | (with_reducible first | apply Tr.next | apply Tr.seq | apply Tr.region | apply Tr.nil | apply Tr.skip) | (refine Tr.cond_f rfl (by first | (with_reducible assumption) | (with_reducible rfl) | (with_reducible exact (not_not_intro rfl)) | omega) ?_)))
      ((refine Tr.step rfl ?_)); refine Exec.call0 rfl (pack_fn M6 hK m2 cs2 hM2) rfl ?_
      rintro _ M7 hm7 ⟨A9, c9, rfl, hx9⟩
      rw [hinv] at hx9 ⊢
      dsimp only at hx9 ⊢
      replace hb := hb.mono hm7
      (repeat (first | ((with_reducible refine Tr.step rfl ?_); (first | (refine xmQ (z := ?_)) | (refine xaQ (z := ?_)) | (refine xiQ (z := ?_)) | ((with_reducible refine Knd.pick ?_); (refine Exec.stab rfl (Stab.pick_td rfl (by first | (with_reducible assumption) | (with_reducible rfl) | (with_reducible exact (not_not_intro rfl)) | omega) rfl) rfl ?_)) | ((with_reducible refine Knd.extract ?_); (refine Exec.stab rfl (Stab.extract rfl rfl) rfl ?_)))) | (with_reducible first | apply Tr.next | apply Tr.seq | apply Tr.region | apply Tr.nil) | ((refine Tr.guard_y rfl rfl rfl (by first | (with_reducible assumption) | (with_reducible rfl) | (with_reducible exact (not_not_intro rfl)) | omega) ?_); (first | (refine xmQ (z := ?_)) | ((with_reducible refine Knd.binOp ?_); (refine Exec.stab rfl (Stab.streq rfl rfl) rfl ?_)) | ((with_reducible refine Knd.convert ?_); (refine Exec.stab rfl (Stab.bstrB rfl (tysOk.get rfl) (tysOk.get rfl) rfl rfl (tysOk.get rfl) rfl (by assumption)) rfl ?_)))) | (with_reducible refine Tr.ret ?_)))
      have hmm : M.le M7 := hm5.trans (hm6.trans hm7)
      (refine dnQ (hL := by exact ⟨[_, _, _, _, _], rfl⟩) (k := ⟨rfl, ?_⟩))
      rw [decide_eq_true rfl]
      rfl
  · rw [hp] at hx ⊢
    dsimp only at hx ⊢
    have hm5 := hm1.trans hm3
    generalize M3 = M5 at *
    (repeat (first | ((with_reducible refine Tr.step rfl ?_); (first | (refine xmQ (z := ?_)) | (refine xaQ (z := ?_)) | (refine xnQ (z := ?_)) | (refine xiQ (z := ?_)) | ((with_reducible refine Knd.extract ?_); (refine Exec.stab rfl (Stab.extract rfl rfl) rfl ?_)))) | (with_reducible first | apply Tr.next | apply Tr.seq | apply Tr.region | apply Tr.nil | apply Tr.skip) | (refine Tr.cond_f rfl (by first | (with_reducible assumption) | (with_reducible rfl) | (with_reducible exact (not_not_intro rfl)) | omega) ?_)))
    ((refine Tr.step rfl ?_)); refine Exec.call0 rfl (unpack_fn M5 hK B k bs hb) rfl ?_
    rintro r M6 hm6 hR
    replace hb := hb.mono hm6
    replace hK := hK.mono hm6
    cases hu : unpackF TF bs with
    | none =>
      rw [hu] at hR
      obtain rfl := hR
      (repeat (first | ((with_reducible refine Tr.step rfl ?_); (first | (refine xmQ (z := ?_)) | (refine xaQ (z := ?_)) | (refine xiQ (z := ?_)) | ((with_reducible refine Knd.store ?_); (refine Exec.storeW rfl rfl (tysOk.get rfl) (by repeat (first | exact Upd.here | apply Upd.there)) rfl rfl (by repeat (first | (with_reducible assumption) | exact AllOne.nil | exact AllOne.bytes _ | refine AllOne.cons (by first | rfl | assumption) ?_)) ?_)) | ((with_reducible refine Knd.alloc ?_); (refine Exec.alloc (tysOk.get rfl) rfl rfl (fun b => ?_))) | ((with_reducible refine Knd.extract ?_); (refine Exec.stab rfl (Stab.extract rfl rfl) rfl ?_)))) | (with_reducible first | apply Tr.next | apply Tr.seq | apply Tr.region | apply Tr.nil) | ((refine Tr.guard_y rfl rfl rfl (by first | (with_reducible assumption) | (with_reducible rfl) | (with_reducible exact (not_not_intro rfl)) | omega) ?_); (first | (refine xwQ (z := ?_)) | ((with_reducible refine Knd.build ?_); (refine Exec.stab rfl (Stab.build tysOk rfl rfl rfl rfl (by repeat (first | exact BuildP.nil | ((apply BuildP.one); (rfl); (rfl); (first | rfl | assumption); (repeat (first | exact SetL.z | apply SetL.s))) | ((apply BuildP.many); (rfl); (rfl); (rfl); (rfl); (repeat (first | exact PutL.nil | ((apply PutL.cons); (repeat (first | exact SetL.z | apply SetL.s))))))))) rfl ?_)))) | (refine Tr.cond_t rfl (by first | (with_reducible assumption) | (with_reducible rfl) | (with_reducible exact (not_not_intro rfl)) | omega) ?_)))
      ((refine Tr.guard_y rfl rfl rfl (by first | (with_reducible assumption) | (with_reducible rfl) | (with_reducible exact (not_not_intro rfl)) | omega) ?_)); refine Exec.call0 rfl (rsame_fn M6 mZ mZ zMsg zMsg (zMsg_R _) (zMsg_R _)) rfl ?_
      rintro _ _ _ ⟨rfl, rfl⟩
      rw [decide_eq_true rfl]
      (repeat (first | ((with_reducible refine Tr.step rfl ?_); (first | (refine xaQ (z := ?_)) | ((with_reducible refine Knd.pick ?_); (refine Exec.stab rfl (Stab.pick_td rfl (by first | (with_reducible assumption) | (with_reducible rfl) | (with_reducible exact (not_not_intro rfl)) | omega) rfl) rfl ?_)))) | (with_reducible first | apply Tr.next | apply Tr.nil | apply Tr.ret | apply Tr.then_ret)))
      have hmm : M.le M6 := hm5.trans hm6
      (refine dnQ (hL := by exact ⟨[_, _], rfl⟩) (k := ⟨rfl, ?_⟩))
      rfl
    | some m2 =>
      rw [hu] at hR
      obtain ⟨cs2, rfl, hM2⟩ := hR
      have hcl2 := hM2.len43
      have hao2 := hM2.allOne
      have hinv := (unpack_inv hu).1
      (repeat (first | ((with_reducible refine Tr.step rfl ?_); (first | (refine xmQ (z := ?_)) | (refine xaQ (z := ?_)) | ((with_reducible refine Knd.load ?_); (refine Exec.stab rfl (Stab.loadW rfl (tysOk.get rfl) rfl (by repeat (first | exact Has.here | apply Has.there)) (by assumption)) rfl ?_)) | (refine xiQ (z := ?_)) | ((with_reducible refine Knd.store ?_); (refine Exec.storeW rfl rfl (tysOk.get rfl) (by repeat (first | exact Upd.here | apply Upd.there)) (by first | rfl | assumption) (by first | rfl | assumption) (by first | exact AllOne.bytes _ | exact AllOne.words _ | exact (by repeat (first | (with_reducible assumption) | exact AllOne.nil | exact AllOne.bytes _ | refine AllOne.cons (by first | rfl | assumption) ?_))) ?_)) | ((with_reducible refine Knd.alloc ?_); (refine Exec.alloc (tysOk.get rfl) rfl rfl (fun b => ?_))) | ((with_reducible refine Knd.extract ?_); (refine Exec.stab rfl (Stab.extract rfl rfl) rfl ?_)))) | (with_reducible first | apply Tr.next | apply Tr.seq | apply Tr.region | apply Tr.nil | apply Tr.skip) | (refine Tr.cond_f rfl (by first | (with_reducible assumption) | (with_reducible rfl) | (with_reducible exact (not_not_intro rfl)) | omega) ?_)))
      ((refine Tr.step rfl ?_)); refine Exec.call0 rfl (pack_fn M6 hK m2 cs2 hM2) rfl ?_
      rintro _ M7 hm7 ⟨A9, c9, rfl, hx9⟩
      rw [hinv] at hx9 ⊢
      dsimp only at hx9 ⊢
      replace hb := hb.mono hm7
      (repeat (first | ((with_reducible refine Tr.step rfl ?_); (first | (refine xmQ (z := ?_)) | (refine xaQ (z := ?_)) | (refine xiQ (z := ?_)) | ((with_reducible refine Knd.pick ?_); (refine Exec.stab rfl (Stab.pick_td rfl (by first | (with_reducible assumption) | (with_reducible rfl) | (with_reducible exact (not_not_intro rfl)) | omega) rfl) rfl ?_)) | ((with_reducible refine Knd.extract ?_); (refine Exec.stab rfl (Stab.extract rfl rfl) rfl ?_)))) | (with_reducible first | apply Tr.next | apply Tr.seq | apply Tr.region | apply Tr.nil) | ((refine Tr.guard_y rfl rfl rfl (by first | (with_reducible assumption) | (with_reducible rfl) | (with_reducible exact (not_not_intro rfl)) | omega) ?_); (first | (refine xmQ (z := ?_)) | ((with_reducible refine Knd.binOp ?_); (refine Exec.stab rfl (Stab.streq rfl rfl) rfl ?_)) | ((with_reducible refine Knd.convert ?_); (refine Exec.stab rfl (Stab.bstrB rfl (tysOk.get rfl) (tysOk.get rfl) rfl rfl (tysOk.get rfl) rfl (by assumption)) rfl ?_)))) | (with_reducible refine Tr.ret ?_)))
      have hmm : M.le M7 := hm5.trans (hm6.trans hm7)
      (refine dnQ (hL := by exact ⟨[_, _], rfl⟩) (k := ⟨rfl, ?_⟩))
      rw [decide_eq_true rfl]
      rfl
end Go.Proofs.YtghjhdbmkilakaaDoor

/-
  Frames: the tied card of FramesMessages.
  Conditions: none.
-/
namespace Go.Proofs.YtghjhdbmkilakaaDoor
open Go Bf
open Go.ChangeShapes Go.WideShapes Go.ChangeAt Go.RowKit
set_option maxRecDepth 100000 in
theorem framesMessages_lifted (os : Os) (started : os.Started) (H : Type) (enc : TypeId × Value → H) :
    ReturnsInHanded {} Tryd.checked os 7 .any (fun w args => (Rows.framesMessagesSpec.pre enc Tryd.prog Tryd.f7 [] false w args ∧ laidMetH Tryd.prog [("backflush/digest.constants", .agg (kI.map fun x => .lit (.int .u32 x)))] w) ∧ sizedMet enc Tryd.prog Tryd.f7 (OpenSpec.ofChange Rows.framesMessagesSpec) false w args) (Rows.framesMessagesSpec.post enc Tryd.prog Tryd.f7 false true false false) :=
  lift_true_laid (C := Tryd.checked) (ts := [48, 22, 36, 22]) (tb := 4) (name := "backflush/digest.constants") (g := 0) (ns := kI) started ownT' (by kernel_rfl) Tryd.func7
    (ChangeSpec.witness_shaped (enc := enc) (C := Tryd.checked) (os := os) (X := fun w _ => laidMetH Tryd.prog [("backflush/digest.constants", .agg (kI.map fun x => .lit (.int .u32 x)))] w) false (World.doorLaid Tryd.prog 400 os) #[.agg (List.replicate 8 (Value.int .i64 0) ++ List.replicate 3 (Value.slice none 0 0) ++ List.replicate 32 (Value.int .u8 0)).toArray, .slice none 0 0, .int .u64 0, .slice none 0 0] 8 rfl (World.shaped_of_RefB (by kernel_rfl) (by kernel_rfl)) (by kernel_rfl) (by kernel_rfl) (by kernel_rfl) (door_met os _))
    (by rw [Tryd.params7]) laidT' (by kernel_rfl) rfl (fun ds h => match ds, h with | [_, _, _, _], _ => rfl) rfl Tryd.underlying4
    gK (by kernel_rfl) u137 u116 c116 (by decide)
    (fun W base vs hK0 hl ha => by
      have hK := kI_at hK0
      obtain ⟨v0, v1, v2, v3, rfl⟩ := len4 hl
      obtain ⟨a, au, rfl, qa⟩ := arg_msg (ha 0 48 v0 rfl rfl)
      obtain ⟨b, bA, bc, rfl, qb⟩ := arg_bytes (ha 1 22 v1 rfl rfl)
      obtain ⟨c, rfl, pc⟩ := arg_uint (ha 2 36 v2 rfl rfl)
      obtain ⟨d, dA, dc, rfl, qd⟩ := arg_bytes (ha 3 22 v3 rfl rfl)
      exact law7_fn _ hK a au bA dA bc dc c b d pc qa qb qd)
theorem framesMessages_row : Rows.FramesMessagesSaid :=
  OpenClaim.holds_of_wide 7 Tryd.f7 rfl rfl rfl rfl rfl rfl rfl ⟨rfl, rfl, rfl, rfl, rfl⟩ rfl rfl rfl rfl rfl (by kernel_rfl) Tryd.func7 (by kernel_rfl)
    (of_decide_eq_true (by kernel_rfl)) (by unfold Func.isWrapper; first | (rw [if_pos (by decide +kernel)]; kernel_rfl) | (rw [if_neg (by decide +kernel)]; exact ⟨rfl, rfl⟩))
    (fun os started H enc _ => by
      have h := framesMessages_lifted os started H enc
      rw [kI_laid] at h
      exact h)
theorem framesMessages_holds : Rows.FramesMessagesCardSaid :=
  Claim7.holds_tied_plain_at .later [] [.data] true Rows.framesMessagesCard.stood.harness false
    framesMessages_row (fun _ h => by cases h) (by kernel_rfl) (fun _ h => by cases h) framesMessages_row_tie rfl ⟨rfl, rfl⟩ (by kernel_rfl) rfl
    (fun f fn hf hfn => by
      obtain rfl : f = 7 := Option.some.inj ((show Tryd.prog.funcNamed "backflush/backflushlaw47.FramesMessages" = some 7 by kernel_rfl).symm.trans hf) |>.symm
      obtain rfl : fn = Tryd.f7 := (Option.some.inj (Tryd.func7.symm.trans hfn)).symm
      exact ⟨by kernel_rfl, fun j t ht => by
        rw [Tryd.params7] at ht
        have hm : t ∈ [48, 22, 36, 22] := by simpa using Array.mem_of_getElem? ht
        have hall : ([48, 22, 36, 22].all fun u => !Tryd.prog.wantsStandIn u) = true := by kernel_rfl
        exact (show Tryd.prog.wantsStandIn t = false by simpa using List.all_eq_true.1 hall t hm)⟩)
    (by kernel_rfl)
end Go.Proofs.YtghjhdbmkilakaaDoor

