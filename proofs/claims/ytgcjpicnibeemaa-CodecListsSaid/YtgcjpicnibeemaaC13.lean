/-
  The codec: the contract of sane.
  Conditions: none.
-/
import Derived.Test.YtgcjpicnibeemaaC12
import Derived.Test.YtgcjpicnibeemaaBfConv
namespace Go.Proofs.Ytgcjpicnibeemaa
open Go Bf
attribute [local irreducible] Tr Exec Stab HasTy Go.Addr.add IntKind.wrap
def V1 : Val := .mk 1 (-3) [] []
def V100 : Val := .mk 1 100 [] []
def Vab : Val := .mk 2 0 [97, 98] []
def V2 : Val := .mk 3 0 [] [V100, Vab]
theorem chk_V1 : chk V1 = 0 := by decide
theorem enc_V1 : enc V1 = [1, 5] := by rw [enc1 rfl, num_small (by decide)]; rfl
theorem encF_V1 : encF V1 = [1, 5] := by rw [encF, if_pos chk_V1, enc_V1]
theorem chk_V2 : chk V2 = 0 := by decide
theorem enc_V2 : enc V2 = [3, 2, 1, 200, 1, 2, 2, 97, 98] := by
  rw [enc3 rfl, num_small (by decide)]
  show _ :: (_ ++ (enc V100 ++ (enc Vab ++ []))) = _
  rw [enc1 rfl, enc2 rfl, num_big (by decide), num_small (by decide), num_small (by decide)]
  rfl
theorem encF_V2 : encF V2 = [3, 2, 1, 200, 1, 2, 2, 97, 98] := by rw [encF, if_pos chk_V2, enc_V2]
theorem sizeF_V2 : sizeF V2 = 9 := by rw [sizeF, if_pos chk_V2, enc_V2]; rfl
theorem ok_V2 : Ok64 V2 := .mk (by omega) (by
  intro x hx
  simp at hx
  rcases hx with rfl | rfl
  · exact .mk (by omega) (by simp)
  · exact .mk (by omega) (by simp))
theorem decF_V2 : decF [3, 2, 1, 200, 1, 2, 2, 97, 98] = (V2, 0) := by
  have := decF_enc chk_V2 ok_V2 (by rw [enc_V2]; decide)
  rwa [enc_V2] at this
theorem decF_a : decF [] = (zVal, 10) := rfl
theorem decF_b : decF [1, 128, 0] = (zVal, 10) := rfl
theorem decF_c : decF [1, 5, 0] = (zVal, 10) := rfl
theorem decF_d : decF [2, 3, 97] = (zVal, 10) := rfl
theorem two_elems {M : Mem} {x y : Val} {a b : List Value} (hx : RVal M a x) (hy : RVal M b y) (ha : a.length = 4) (hb : b.length = 4) : Elems 4 (fun M c x => RVal M c x) M (a ++ b) [x, y] := by
  refine ⟨by simp [ha, hb], fun i v hv => ?_⟩
  match i, hv with
  | 0, hv => cases hv; simpa [← ha] using hx
  | 1, hv =>
    cases hv
    rw [show 1 * 4 = a.length by omega, List.drop_left, ← hb, List.take_length]
    exact hy
set_option maxHeartbeats 4000000 in
theorem sane_fn (M : Mem) : Fn0 Try.prog 10 [] M (fun r _ => r = .bool true) := by
  refine Fn.intro Try.func10 rfl rfl Try.ntmps10 rfl fun E F => ?_
  repeat (first | ((with_reducible refine Tr.step rfl ?_); (((with_reducible refine Knd.assign ?_); (refine Exec.stab rfl (Stab.assign rfl) rfl ?_)))) | (with_reducible refine Tr.next ?_) | (with_reducible refine Tr.seq ?_) | (with_reducible refine Tr.region ?_) | (with_reducible refine Tr.nil ?_))
  ((refine Tr.step rfl ?_)); refine Exec.call0 rfl (int_fn M (-3) (by omega)) rfl ?_
  rintro r1 _ - ⟨h1, rfl⟩
  repeat (fail)
  ((refine Tr.step rfl ?_)); refine Exec.call0 rfl (encode_fn M V1 r1 h1 (by decide) (by rw [enc_V1]; decide)) rfl ?_
  rintro _ M1 hm1 ⟨B1, c1, rfl, hb1⟩
  rw [chk_V1, encF_V1] at *
  repeat (first | ((with_reducible refine Tr.step rfl ?_); (first | ((with_reducible refine Knd.move ?_); (refine Exec.stab rfl (Stab.move rfl) rfl ?_)) | ((with_reducible refine Knd.assign ?_); (refine Exec.stab rfl (Stab.assign rfl) rfl ?_)) | ((with_reducible refine Knd.extract ?_); (refine Exec.stab rfl (Stab.extract rfl rfl) rfl ?_)))) | (with_reducible refine Tr.next ?_) | (with_reducible refine Tr.seq ?_) | (with_reducible refine Tr.region ?_) | (with_reducible refine Tr.nil ?_))
  ((refine Tr.step rfl ?_)); refine Exec.call0 rfl (int_fn M1 100 (by omega)) rfl ?_
  rintro r2 _ - ⟨h2, rfl⟩
  ((refine Tr.step rfl ?_))
  refine Exec.call0 rfl (text_fn M1 [97, 98] (by decide)) rfl ?_
  rintro r3 _ - ⟨h3, rfl⟩
  obtain ⟨A2, c2, rfl, h2', -⟩ := h2.open_
  obtain ⟨A3, c3, rfl, h3', -⟩ := h3.open_
  obtain ⟨cs2, e2, h2c⟩ := h2'
  obtain ⟨cs3, e3, h3c⟩ := h3'
  have e2 := congrArg (fun v => match v with | Value.agg a => a.toList | _ => []) e2
  have e3 := congrArg (fun v => match v with | Value.agg a => a.toList | _ => []) e3
  dsimp only at e2 e3
  subst e2 e3
  repeat (((with_reducible refine Tr.step rfl ?_); (((with_reducible refine Knd.buildSlice ?_); (refine Exec.buildSlice (tysOk.get rfl) rfl (tysOk.get rfl) rfl rfl rfl rfl rfl (by repeat (first | exact BuildP.nil | ((apply BuildP.many); (rfl); (rfl); (rfl); (rfl); (repeat (first | exact PutL.nil | ((apply PutL.cons); (repeat (first | exact SetL.z | apply SetL.s)))))))) rfl (fun b => ?_))))))
  refine Tr.publish (r := box _ 24 _) (by repeat (first | exact Del.here | apply Del.there)) (fun M2 hm2 hok => ?_)
  have hls : RVals M2 (.slice (some ⟨b, 0, none⟩) [V100, Vab].length [V100, Vab].length) [V100, Vab] := SlOf.ofBox hok (by repeat (first | refine List.forall_mem_cons.2 ⟨rfl, ?_⟩ | exact List.forall_mem_nil _)) (by decide) (two_elems (h2c.mono hm2) (h3c.mono hm2) rfl rfl)
  ((refine Tr.step rfl ?_)); refine Exec.call0 rfl (list_fn M2 _ _ [V100, Vab] hls) rfl ?_
  rintro r4 _ - ⟨h4, rfl⟩
  have hb1' := hb1.mono hm2
  obtain ⟨A4, c4, rfl, h4v, -⟩ := h4.open_
  repeat (first | ((with_reducible refine Tr.step rfl ?_); (first | ((with_reducible refine Knd.load ?_); ((refine Exec.stab rfl (Stab.loadW rfl (tysOk.get rfl) rfl (by repeat (first | exact Has.here | apply Has.there)) rfl) rfl ?_))) | ((with_reducible refine Knd.store ?_); ((refine Exec.storeW rfl rfl (tysOk.get rfl) (by repeat (first | exact Upd.here | apply Upd.there)) rfl rfl (by repeat (first | exact AllOne.nil | refine AllOne.cons (by first | rfl | assumption) ?_)) ?_))) | ((with_reducible refine Knd.alloc ?_); (first | (refine Exec.alloc (tysOk.get rfl) rfl rfl (fun b => ?_)) | (refine Exec.alloc1 (tysOk.get rfl) rfl rfl rfl (fun b => ?_)))))) | (with_reducible refine Tr.next ?_) | (with_reducible refine Tr.seq ?_) | (with_reducible refine Tr.region ?_) | (with_reducible refine Tr.nil ?_))
  ((refine Tr.step rfl ?_)); refine Exec.call0 rfl (encode_fn M2 V2 _ h4v (by decide) (by rw [enc_V2]; decide)) rfl ?_
  rintro _ M3 hm3 ⟨B4, c5, rfl, hb4⟩
  rw [chk_V2, encF_V2] at *
  have hb1'' := hb1'.mono hm3
  have h4w := h4v.mono hm3
  repeat (first | ((with_reducible refine Tr.step rfl ?_); (first | ((with_reducible refine Knd.move ?_); (refine Exec.stab rfl (Stab.move rfl) rfl ?_)) | ((with_reducible refine Knd.assign ?_); (refine Exec.stab rfl (Stab.assign rfl) rfl ?_)) | ((with_reducible refine Knd.extract ?_); (refine Exec.stab rfl (Stab.extract rfl rfl) rfl ?_)))) | (with_reducible refine Tr.next ?_) | (with_reducible refine Tr.seq ?_) | (with_reducible refine Tr.region ?_) | (with_reducible refine Tr.nil ?_))
  have hd4 : Fn0 Try.prog 18 [.slice B4 [3, 2, 1, 200, 1, 2, 2, 97, 98].length c5] M3 (fun r M' => ∃ v, r = .tuple #[v, .int .i64 0] ∧ RV M' v V2) := by
    have := decode_fn M3 _ _ [3, 2, 1, 200, 1, 2, 2, 97, 98] hb4 (by decide)
    rw [decF_V2] at this
    exact this
  ((refine Tr.step rfl ?_)); refine Exec.call0 rfl (hd4) rfl ?_
  rintro _ M4 hm4 ⟨r5, rfl, h5⟩
  have hb1x := hb1''.mono hm4
  have hb4x := hb4.mono hm4
  have h4x := h4w.mono hm4
  obtain ⟨A5, c6, rfl, h5v, -⟩ := h5.open_
  have hs4 : Fn0 Try.prog 14 [.agg #[.int .i64 V2.k, .int .i64 V2.n, .string ⟨V2.s.toArray⟩, .slice A4 V2.l.length c4]] M4 (fun r M' => r = .tuple #[.int .i64 9, .int .i64 0] ∧ M4 = M') := by
    have := size_fn M4 V2 _ h4x (by decide) (by rw [enc_V2]; decide)
    rw [chk_V2, sizeF_V2] at this
    exact this
  repeat (first | ((with_reducible refine Tr.step rfl ?_); (first | ((with_reducible refine Knd.move ?_); (refine Exec.stab rfl (Stab.move rfl) rfl ?_)) | ((with_reducible refine Knd.assign ?_); (refine Exec.stab rfl (Stab.assign rfl) rfl ?_)) | ((with_reducible refine Knd.load ?_); ((refine Exec.stab rfl (Stab.loadW rfl (tysOk.get rfl) rfl (by repeat (first | exact Has.here | apply Has.there)) rfl) rfl ?_))) | ((with_reducible refine Knd.store ?_); ((refine Exec.storeW rfl rfl (tysOk.get rfl) (by repeat (first | exact Upd.here | apply Upd.there)) rfl rfl (by repeat (first | exact AllOne.nil | refine AllOne.cons (by first | rfl | assumption) ?_)) ?_))) | ((with_reducible refine Knd.alloc ?_); (first | (refine Exec.alloc (tysOk.get rfl) rfl rfl (fun b => ?_)) | (refine Exec.alloc1 (tysOk.get rfl) rfl rfl rfl (fun b => ?_)))) | ((with_reducible refine Knd.extract ?_); (refine Exec.stab rfl (Stab.extract rfl rfl) rfl ?_)))) | (with_reducible refine Tr.next ?_) | (with_reducible refine Tr.seq ?_) | (with_reducible refine Tr.region ?_) | (with_reducible refine Tr.nil ?_))
  ((refine Tr.step rfl ?_)); refine Exec.call0 rfl (hs4) rfl ?_
  rintro _ _ _ ⟨rfl, rfl⟩
  have q1 : decide (¬ ({ data := #[1, 5] } : ByteArray).data.toList = ({ data := #[1, 5] } : ByteArray).data.toList) = false := by decide
  have q2 : decide (¬ ({ data := #[3, 2, 1, 200, 1, 2, 2, 97, 98] } : ByteArray).data.toList = ({ data := #[3, 2, 1, 200, 1, 2, 2, 97, 98] } : ByteArray).data.toList) = false := by decide
  repeat (first | ((with_reducible refine Tr.step rfl ?_); (first | ((with_reducible refine Knd.move ?_); (refine Exec.stab rfl (Stab.move rfl) rfl ?_)) | ((with_reducible refine Knd.assign ?_); (refine Exec.stab rfl (Stab.assign rfl) rfl ?_)) | ((with_reducible refine Knd.binOp ?_); ((refine Exec.stab rfl (Stab.int rfl rfl rfl) rfl ?_))) | ((with_reducible refine Knd.pick ?_); (first | (refine Exec.stab rfl (Stab.pick_f rfl (by first | (with_reducible rfl) | (with_reducible assumption) | (with_reducible exact Bool.not_true) | (with_reducible exact Bool.not_false)) rfl) rfl ?_) | (refine Exec.stab rfl (Stab.pick_fd rfl (by first | (with_reducible assumption) | omega) rfl) rfl ?_))) | ((with_reducible refine Knd.extract ?_); (refine Exec.stab rfl (Stab.extract rfl rfl) rfl ?_)))) | (with_reducible refine Tr.next ?_) | (with_reducible refine Tr.seq ?_) | (with_reducible refine Tr.region ?_) | (with_reducible refine Tr.nil ?_) | ((refine Tr.guard_l rfl rfl rfl (by first | (with_reducible rfl) | (with_reducible assumption) | (with_reducible exact Bool.not_true) | (with_reducible exact Bool.not_false)) ?_); (first | ((with_reducible refine Knd.move ?_); (refine Exec.stab rfl (Stab.move rfl) rfl ?_)) | ((with_reducible refine Knd.binOp ?_); ((refine Exec.stab rfl (Stab.int rfl rfl rfl) rfl ?_))))) | ((refine Tr.guard_y' rfl rfl rfl (by first | (with_reducible assumption) | omega) ?_); (first | ((with_reducible refine Knd.move ?_); (refine Exec.stab rfl (Stab.move rfl) rfl ?_)) | ((with_reducible refine Knd.load ?_); ((refine Exec.stab rfl (Stab.loadW rfl (tysOk.get rfl) rfl (by repeat (first | exact Has.here | apply Has.there)) rfl) rfl ?_))) | ((with_reducible refine Knd.binOp ?_); ((refine Exec.stab rfl (Stab.strne rfl rfl) rfl ?_))) | ((with_reducible refine Knd.convert ?_); ((refine Exec.stab rfl (Stab.bstrB rfl (tysOk.get rfl) (tysOk.get rfl) rfl rfl (tysOk.get rfl) rfl (by assumption)) rfl ?_))))))
  rw [q1]
  repeat (fail)
  rw [q2]
  repeat (fail)
  have hsm : Fn0 Try.prog 21 [.agg #[.int .i64 V2.k, .int .i64 V2.n, .string ⟨V2.s.toArray⟩, .slice A4 V2.l.length c4], .agg #[.int .i64 V2.k, .int .i64 V2.n, .string ⟨V2.s.toArray⟩, .slice A5 V2.l.length c6]] M4 (fun r M' => r = .bool true ∧ M4 = M') := by
    have := same_fn M4 V2 V2 _ _ h4x h5v
    rw [sameV_iff.2 rfl] at this
    exact this
  ((refine Tr.guard_y' rfl rfl rfl (by first | (with_reducible assumption) | omega) ?_)); refine Exec.call0 rfl (hsm) rfl ?_
  rintro _ _ _ ⟨rfl, rfl⟩
  repeat (first | ((with_reducible refine Tr.step rfl ?_); (first | ((with_reducible refine Knd.move ?_); (refine Exec.stab rfl (Stab.move rfl) rfl ?_)) | ((with_reducible refine Knd.pick ?_); (first | (refine Exec.stab rfl (Stab.pick_f rfl (by first | (with_reducible rfl) | (with_reducible assumption) | (with_reducible exact Bool.not_true) | (with_reducible exact Bool.not_false)) rfl) rfl ?_) | (refine Exec.stab rfl (Stab.pick_fd rfl (by first | (with_reducible assumption) | omega) rfl) rfl ?_))))) | ((refine Tr.guard_l rfl rfl rfl (by first | (with_reducible rfl) | (with_reducible assumption) | (with_reducible exact Bool.not_true) | (with_reducible exact Bool.not_false)) ?_); (first | ((with_reducible refine Knd.move ?_); (refine Exec.stab rfl (Stab.move rfl) rfl ?_)) | ((with_reducible refine Knd.binOp ?_); ((refine Exec.stab rfl (Stab.int rfl rfl rfl) rfl ?_))))) | ((refine Tr.guard_y' rfl rfl rfl (by first | (with_reducible assumption) | omega) ?_); (first | ((with_reducible refine Knd.move ?_); (refine Exec.stab rfl (Stab.move rfl) rfl ?_)) | ((with_reducible refine Knd.binOp ?_); ((refine Exec.stab rfl (Stab.int rfl rfl rfl) rfl ?_))) | ((with_reducible refine Knd.unOp ?_); (first | (refine Exec.stab rfl (Stab.notd rfl) rfl ?_) | (refine Exec.stab rfl (Stab.not rfl) rfl ?_) | (refine Exec.stab rfl (Stab.neg rfl (by omega)) rfl ?_))))))
  ((refine Tr.guard_y' rfl rfl rfl (by first | (with_reducible assumption) | omega) ?_)); refine Exec.call0 rfl (text_fn M4 [] (by decide)) rfl ?_
  rintro r7 _ - ⟨h7, rfl⟩
  ((refine Tr.guard_y' rfl rfl rfl (by first | (with_reducible assumption) | omega) ?_))
  refine Exec.call0 rfl (list_fn M4 none 0 [] (SlOf.nil _ _ _)) rfl ?_
  rintro r8 _ - ⟨h8, rfl⟩
  have hsn : Fn0 Try.prog 21 [r7, r8] M4 (fun r M' => r = .bool false ∧ M4 = M') := by
    have := same_fn M4 _ _ _ _ h7 h8
    rw [sameV_false (by intro h; cases h)] at this
    exact this
  ((refine Tr.guard_y' rfl rfl rfl (by first | (with_reducible assumption) | omega) ?_)); refine Exec.call0 rfl (hsn) rfl ?_
  rintro _ _ _ ⟨rfl, rfl⟩
  repeat (first | ((with_reducible refine Tr.step rfl ?_); (first | ((with_reducible refine Knd.move ?_); (refine Exec.stab rfl (Stab.move rfl) rfl ?_)) | ((with_reducible refine Knd.len ?_); ((refine Exec.stab rfl (Stab.len rfl (tysOk.get rfl) rfl) rfl ?_))) | ((with_reducible refine Knd.pick ?_); ((refine Exec.stab rfl (Stab.pick_fd rfl (by first | (with_reducible assumption) | omega) rfl) rfl ?_))) | ((with_reducible refine Knd.buildSlice ?_); (refine Exec.buildSlice (tysOk.get rfl) rfl (tysOk.get rfl) rfl rfl rfl rfl rfl (by repeat (first | exact BuildP.nil | ((apply BuildP.one); (rfl); (rfl); (first | rfl | assumption); (repeat (first | exact SetL.z | apply SetL.s))))) rfl (fun b => ?_))))) | (with_reducible refine Tr.next ?_) | (with_reducible refine Tr.seq ?_) | (with_reducible refine Tr.region ?_) | (with_reducible refine Tr.nil ?_) | (with_reducible refine Tr.skip ?_) | (with_reducible refine Tr.block ?_) | (refine Tr.cond_bf rfl (by first | (with_reducible rfl) | (with_reducible assumption) | (with_reducible exact Bool.not_true) | (with_reducible exact Bool.not_false)) ?_))
  refine Tr.give (r := box _ 24 _) (by repeat (first | exact Del.here | apply Del.there)) ?_
  refine Tr.give (r := box _ 24 _) (by repeat (first | exact Del.here | apply Del.there)) ?_
  refine Tr.loop (α := Nat × Mem) (fun x => ⟨95, [(79, .int .i64 x.1), (78, .int .i64 4), (77, .slice (some ⟨b, 0, none⟩) 4 4), (0, .bool false)], [], x.2, box b 9 [.string ⟨#[]⟩, .string ⟨#[1, 128, 0]⟩, .string ⟨#[1, 5, 0]⟩, .string ⟨#[2, 3, 97]⟩] :: ([] ++ F)⟩) (fun x => x.1 ≤ 4 ∧ Mem.le M4 x.2) (fun x => 4 - x.1) (0, M4) ⟨by simp only; omega, Mem.le.refl _⟩ (holds_sub (by repeat (first | exact SubFr.nil | refine SubFr.cons rfl ?_)) (by repeat (first | exact DropL.refl | apply DropL.skip))) (fun x hi => ?_)
  obtain ⟨i, M5⟩ := x
  obtain ⟨hi, hm5⟩ := hi
  simp only at hi hm5
  dsimp only
  have hcases : i = 0 ∨ i = 1 ∨ i = 2 ∨ i = 3 ∨ i = 4 := by omega
  rcases hcases with rfl | rfl | rfl | rfl | rfl
  · repeat (first | ((with_reducible refine Tr.step rfl ?_); (first | ((with_reducible refine Knd.move ?_); (refine Exec.stab rfl (Stab.move rfl) rfl ?_)) | ((with_reducible refine Knd.assign ?_); (refine Exec.stab rfl (Stab.assign rfl) rfl ?_)) | ((with_reducible refine Knd.load ?_); ((refine Exec.stab rfl (Stab.load rfl (tysOk.get rfl) rfl (by repeat (first | exact Has.here | apply Has.there)) rfl) rfl ?_))) | ((with_reducible refine Knd.binOp ?_); ((refine Exec.stab rfl (Stab.int rfl rfl rfl) rfl ?_))) | ((with_reducible refine Knd.indexAddr ?_); ((refine Exec.stab rfl (Stab.indexB0 rfl rfl (tysOk.get rfl) rfl (tysOk.get rfl) rfl (by omega) (by omega)) rfl ?_))))) | (with_reducible refine Tr.next ?_) | (with_reducible refine Tr.seq ?_) | (with_reducible refine Tr.region ?_) | (with_reducible refine Tr.nil ?_) | (with_reducible refine Tr.skip ?_) | (with_reducible refine Tr.block ?_) | (refine Tr.cond_t rfl (by first | (with_reducible assumption) | omega) ?_))
    ((refine Tr.step rfl ?_))
    refine Exec.strBytes (l := []) rfl (tysOk.get rfl) (tysOk.get rfl) rfl (tysOk.get rfl) rfl (by decide) rfl (fun b9 c9 M6 hm6 hb9 => ?_)
    have hd9 : Fn0 Try.prog 18 [.slice (some ⟨b9, 0, none⟩) ([] : List UInt8).length c9] M6 (fun r M' => ∃ v, r = .tuple #[v, .int .i64 10] ∧ RV M' v zVal) := decode_fn M6 _ _ [] hb9 (by decide)
    repeat (fail)
    ((refine Tr.step rfl ?_)); refine Exec.call0 rfl (hd9) rfl ?_
    rintro _ M7 hm7 ⟨r9, rfl, h9⟩
    obtain ⟨A9, c9, rfl, -⟩ := h9.open_
    repeat (first | ((with_reducible refine Tr.step rfl ?_); (first | ((with_reducible refine Knd.move ?_); (refine Exec.stab rfl (Stab.move rfl) rfl ?_)) | ((with_reducible refine Knd.assign ?_); (refine Exec.stab rfl (Stab.assign rfl) rfl ?_)) | ((with_reducible refine Knd.binOp ?_); (first | (refine Exec.stab rfl (Stab.addi rfl rfl (by omega)) rfl ?_) | (refine Exec.stab rfl (Stab.int rfl rfl rfl) rfl ?_))) | ((with_reducible refine Knd.store ?_); ((refine Exec.storeW rfl rfl (tysOk.get rfl) (by repeat (first | exact Upd.here | apply Upd.there)) rfl rfl (by repeat (first | exact AllOne.nil | refine AllOne.cons (by first | rfl | assumption) ?_)) ?_))) | ((with_reducible refine Knd.alloc ?_); (first | (refine Exec.alloc (tysOk.get rfl) rfl rfl (fun b => ?_)) | (refine Exec.alloc1 (tysOk.get rfl) rfl rfl rfl (fun b => ?_)))) | ((with_reducible refine Knd.extract ?_); (refine Exec.stab rfl (Stab.extract rfl rfl) rfl ?_)))) | (with_reducible refine Tr.next ?_) | (with_reducible refine Tr.seq ?_) | (with_reducible refine Tr.region ?_) | (with_reducible refine Tr.nil ?_) | (with_reducible refine Tr.skip ?_) | (with_reducible refine Tr.in_normal ?_) | (refine Tr.cond_f rfl (by first | (with_reducible assumption) | omega) ?_))
    refine Tr.give (r := box _ 24 _) (by repeat (first | exact Del.here | apply Del.there)) ?_
    refine Tr.again (1, M7) ⟨by simp only; omega, hm5.trans (hm6.trans hm7)⟩ (by simp only; omega) (holds_sub (by repeat (first | exact SubFr.nil | refine SubFr.cons rfl ?_)) (by repeat (first | exact DropL.refl | apply DropL.skip)))
  · repeat (first | ((with_reducible refine Tr.step rfl ?_); (first | ((with_reducible refine Knd.move ?_); (refine Exec.stab rfl (Stab.move rfl) rfl ?_)) | ((with_reducible refine Knd.assign ?_); (refine Exec.stab rfl (Stab.assign rfl) rfl ?_)) | ((with_reducible refine Knd.load ?_); ((refine Exec.stab rfl (Stab.load rfl (tysOk.get rfl) rfl (by repeat (first | exact Has.here | apply Has.there)) rfl) rfl ?_))) | ((with_reducible refine Knd.binOp ?_); ((refine Exec.stab rfl (Stab.int rfl rfl rfl) rfl ?_))) | ((with_reducible refine Knd.indexAddr ?_); ((refine Exec.stab rfl (Stab.indexB0 rfl rfl (tysOk.get rfl) rfl (tysOk.get rfl) rfl (by omega) (by omega)) rfl ?_))))) | (with_reducible refine Tr.next ?_) | (with_reducible refine Tr.seq ?_) | (with_reducible refine Tr.region ?_) | (with_reducible refine Tr.nil ?_) | (with_reducible refine Tr.skip ?_) | (with_reducible refine Tr.block ?_) | (refine Tr.cond_t rfl (by first | (with_reducible assumption) | omega) ?_))
    ((refine Tr.step rfl ?_))
    refine Exec.strBytes (l := [1, 128, 0]) rfl (tysOk.get rfl) (tysOk.get rfl) rfl (tysOk.get rfl) rfl (by decide) rfl (fun b9 c9 M6 hm6 hb9 => ?_)
    have hd9 : Fn0 Try.prog 18 [.slice (some ⟨b9, 0, none⟩) ([1, 128, 0] : List UInt8).length c9] M6 (fun r M' => ∃ v, r = .tuple #[v, .int .i64 10] ∧ RV M' v zVal) := decode_fn M6 _ _ [1, 128, 0] hb9 (by decide)
    repeat (fail)
    ((refine Tr.step rfl ?_)); refine Exec.call0 rfl (hd9) rfl ?_
    rintro _ M7 hm7 ⟨r9, rfl, h9⟩
    obtain ⟨A9, c9, rfl, -⟩ := h9.open_
    repeat (first | ((with_reducible refine Tr.step rfl ?_); (first | ((with_reducible refine Knd.move ?_); (refine Exec.stab rfl (Stab.move rfl) rfl ?_)) | ((with_reducible refine Knd.assign ?_); (refine Exec.stab rfl (Stab.assign rfl) rfl ?_)) | ((with_reducible refine Knd.binOp ?_); (first | (refine Exec.stab rfl (Stab.addi rfl rfl (by omega)) rfl ?_) | (refine Exec.stab rfl (Stab.int rfl rfl rfl) rfl ?_))) | ((with_reducible refine Knd.store ?_); ((refine Exec.storeW rfl rfl (tysOk.get rfl) (by repeat (first | exact Upd.here | apply Upd.there)) rfl rfl (by repeat (first | exact AllOne.nil | refine AllOne.cons (by first | rfl | assumption) ?_)) ?_))) | ((with_reducible refine Knd.alloc ?_); (first | (refine Exec.alloc (tysOk.get rfl) rfl rfl (fun b => ?_)) | (refine Exec.alloc1 (tysOk.get rfl) rfl rfl rfl (fun b => ?_)))) | ((with_reducible refine Knd.extract ?_); (refine Exec.stab rfl (Stab.extract rfl rfl) rfl ?_)))) | (with_reducible refine Tr.next ?_) | (with_reducible refine Tr.seq ?_) | (with_reducible refine Tr.region ?_) | (with_reducible refine Tr.nil ?_) | (with_reducible refine Tr.skip ?_) | (with_reducible refine Tr.in_normal ?_) | (refine Tr.cond_f rfl (by first | (with_reducible assumption) | omega) ?_))
    refine Tr.give (r := box _ 24 _) (by repeat (first | exact Del.here | apply Del.there)) ?_
    refine Tr.again (2, M7) ⟨by simp only; omega, hm5.trans (hm6.trans hm7)⟩ (by simp only; omega) (holds_sub (by repeat (first | exact SubFr.nil | refine SubFr.cons rfl ?_)) (by repeat (first | exact DropL.refl | apply DropL.skip)))
  · repeat (first | ((with_reducible refine Tr.step rfl ?_); (first | ((with_reducible refine Knd.move ?_); (refine Exec.stab rfl (Stab.move rfl) rfl ?_)) | ((with_reducible refine Knd.assign ?_); (refine Exec.stab rfl (Stab.assign rfl) rfl ?_)) | ((with_reducible refine Knd.load ?_); ((refine Exec.stab rfl (Stab.load rfl (tysOk.get rfl) rfl (by repeat (first | exact Has.here | apply Has.there)) rfl) rfl ?_))) | ((with_reducible refine Knd.binOp ?_); ((refine Exec.stab rfl (Stab.int rfl rfl rfl) rfl ?_))) | ((with_reducible refine Knd.indexAddr ?_); ((refine Exec.stab rfl (Stab.indexB0 rfl rfl (tysOk.get rfl) rfl (tysOk.get rfl) rfl (by omega) (by omega)) rfl ?_))))) | (with_reducible refine Tr.next ?_) | (with_reducible refine Tr.seq ?_) | (with_reducible refine Tr.region ?_) | (with_reducible refine Tr.nil ?_) | (with_reducible refine Tr.skip ?_) | (with_reducible refine Tr.block ?_) | (refine Tr.cond_t rfl (by first | (with_reducible assumption) | omega) ?_))
    ((refine Tr.step rfl ?_))
    refine Exec.strBytes (l := [1, 5, 0]) rfl (tysOk.get rfl) (tysOk.get rfl) rfl (tysOk.get rfl) rfl (by decide) rfl (fun b9 c9 M6 hm6 hb9 => ?_)
    have hd9 : Fn0 Try.prog 18 [.slice (some ⟨b9, 0, none⟩) ([1, 5, 0] : List UInt8).length c9] M6 (fun r M' => ∃ v, r = .tuple #[v, .int .i64 10] ∧ RV M' v zVal) := decode_fn M6 _ _ [1, 5, 0] hb9 (by decide)
    repeat (fail)
    ((refine Tr.step rfl ?_)); refine Exec.call0 rfl (hd9) rfl ?_
    rintro _ M7 hm7 ⟨r9, rfl, h9⟩
    obtain ⟨A9, c9, rfl, -⟩ := h9.open_
    repeat (first | ((with_reducible refine Tr.step rfl ?_); (first | ((with_reducible refine Knd.move ?_); (refine Exec.stab rfl (Stab.move rfl) rfl ?_)) | ((with_reducible refine Knd.assign ?_); (refine Exec.stab rfl (Stab.assign rfl) rfl ?_)) | ((with_reducible refine Knd.binOp ?_); (first | (refine Exec.stab rfl (Stab.addi rfl rfl (by omega)) rfl ?_) | (refine Exec.stab rfl (Stab.int rfl rfl rfl) rfl ?_))) | ((with_reducible refine Knd.store ?_); ((refine Exec.storeW rfl rfl (tysOk.get rfl) (by repeat (first | exact Upd.here | apply Upd.there)) rfl rfl (by repeat (first | exact AllOne.nil | refine AllOne.cons (by first | rfl | assumption) ?_)) ?_))) | ((with_reducible refine Knd.alloc ?_); (first | (refine Exec.alloc (tysOk.get rfl) rfl rfl (fun b => ?_)) | (refine Exec.alloc1 (tysOk.get rfl) rfl rfl rfl (fun b => ?_)))) | ((with_reducible refine Knd.extract ?_); (refine Exec.stab rfl (Stab.extract rfl rfl) rfl ?_)))) | (with_reducible refine Tr.next ?_) | (with_reducible refine Tr.seq ?_) | (with_reducible refine Tr.region ?_) | (with_reducible refine Tr.nil ?_) | (with_reducible refine Tr.skip ?_) | (with_reducible refine Tr.in_normal ?_) | (refine Tr.cond_f rfl (by first | (with_reducible assumption) | omega) ?_))
    refine Tr.give (r := box _ 24 _) (by repeat (first | exact Del.here | apply Del.there)) ?_
    refine Tr.again (3, M7) ⟨by simp only; omega, hm5.trans (hm6.trans hm7)⟩ (by simp only; omega) (holds_sub (by repeat (first | exact SubFr.nil | refine SubFr.cons rfl ?_)) (by repeat (first | exact DropL.refl | apply DropL.skip)))
  · repeat (first | ((with_reducible refine Tr.step rfl ?_); (first | ((with_reducible refine Knd.move ?_); (refine Exec.stab rfl (Stab.move rfl) rfl ?_)) | ((with_reducible refine Knd.assign ?_); (refine Exec.stab rfl (Stab.assign rfl) rfl ?_)) | ((with_reducible refine Knd.load ?_); ((refine Exec.stab rfl (Stab.load rfl (tysOk.get rfl) rfl (by repeat (first | exact Has.here | apply Has.there)) rfl) rfl ?_))) | ((with_reducible refine Knd.binOp ?_); ((refine Exec.stab rfl (Stab.int rfl rfl rfl) rfl ?_))) | ((with_reducible refine Knd.indexAddr ?_); ((refine Exec.stab rfl (Stab.indexB0 rfl rfl (tysOk.get rfl) rfl (tysOk.get rfl) rfl (by omega) (by omega)) rfl ?_))))) | (with_reducible refine Tr.next ?_) | (with_reducible refine Tr.seq ?_) | (with_reducible refine Tr.region ?_) | (with_reducible refine Tr.nil ?_) | (with_reducible refine Tr.skip ?_) | (with_reducible refine Tr.block ?_) | (refine Tr.cond_t rfl (by first | (with_reducible assumption) | omega) ?_))
    ((refine Tr.step rfl ?_))
    refine Exec.strBytes (l := [2, 3, 97]) rfl (tysOk.get rfl) (tysOk.get rfl) rfl (tysOk.get rfl) rfl (by decide) rfl (fun b9 c9 M6 hm6 hb9 => ?_)
    have hd9 : Fn0 Try.prog 18 [.slice (some ⟨b9, 0, none⟩) ([2, 3, 97] : List UInt8).length c9] M6 (fun r M' => ∃ v, r = .tuple #[v, .int .i64 10] ∧ RV M' v zVal) := decode_fn M6 _ _ [2, 3, 97] hb9 (by decide)
    repeat (fail)
    ((refine Tr.step rfl ?_)); refine Exec.call0 rfl (hd9) rfl ?_
    rintro _ M7 hm7 ⟨r9, rfl, h9⟩
    obtain ⟨A9, c9, rfl, -⟩ := h9.open_
    repeat (first | ((with_reducible refine Tr.step rfl ?_); (first | ((with_reducible refine Knd.move ?_); (refine Exec.stab rfl (Stab.move rfl) rfl ?_)) | ((with_reducible refine Knd.assign ?_); (refine Exec.stab rfl (Stab.assign rfl) rfl ?_)) | ((with_reducible refine Knd.binOp ?_); (first | (refine Exec.stab rfl (Stab.addi rfl rfl (by omega)) rfl ?_) | (refine Exec.stab rfl (Stab.int rfl rfl rfl) rfl ?_))) | ((with_reducible refine Knd.store ?_); ((refine Exec.storeW rfl rfl (tysOk.get rfl) (by repeat (first | exact Upd.here | apply Upd.there)) rfl rfl (by repeat (first | exact AllOne.nil | refine AllOne.cons (by first | rfl | assumption) ?_)) ?_))) | ((with_reducible refine Knd.alloc ?_); (first | (refine Exec.alloc (tysOk.get rfl) rfl rfl (fun b => ?_)) | (refine Exec.alloc1 (tysOk.get rfl) rfl rfl rfl (fun b => ?_)))) | ((with_reducible refine Knd.extract ?_); (refine Exec.stab rfl (Stab.extract rfl rfl) rfl ?_)))) | (with_reducible refine Tr.next ?_) | (with_reducible refine Tr.seq ?_) | (with_reducible refine Tr.region ?_) | (with_reducible refine Tr.nil ?_) | (with_reducible refine Tr.skip ?_) | (with_reducible refine Tr.in_normal ?_) | (refine Tr.cond_f rfl (by first | (with_reducible assumption) | omega) ?_))
    refine Tr.give (r := box _ 24 _) (by repeat (first | exact Del.here | apply Del.there)) ?_
    refine Tr.again (4, M7) ⟨by simp only; omega, hm5.trans (hm6.trans hm7)⟩ (by simp only; omega) (holds_sub (by repeat (first | exact SubFr.nil | refine SubFr.cons rfl ?_)) (by repeat (first | exact DropL.refl | apply DropL.skip)))
  · have hmm : Mem.le M M5 := hm1.trans (hm2.trans (hm3.trans (hm4.trans hm5)))
    repeat (first | ((with_reducible refine Tr.step rfl ?_); (first | ((with_reducible refine Knd.binOp ?_); ((refine Exec.stab rfl (Stab.int rfl rfl rfl) rfl ?_))) | ((with_reducible refine Knd.build ?_); ((refine Exec.stab rfl (Stab.build tysOk rfl rfl rfl rfl (by repeat (exact BuildP.nil))) rfl ?_))))) | (with_reducible refine Tr.next ?_) | (with_reducible refine Tr.seq ?_) | (with_reducible refine Tr.region ?_) | (with_reducible refine Tr.nil ?_) | (with_reducible refine Tr.exit ?_) | (with_reducible refine Tr.then_exit ?_) | ((with_reducible refine Tr.in_exit ?_ ?_); (exact rfl)) | (refine Tr.cond_f rfl (by first | (with_reducible assumption) | omega) ?_))
    ((refine Tr.step rfl ?_)); refine Exec.call0 rfl (check_fn M5 zVal _ (RV.zero M5) (by decide)) rfl ?_
    rintro _ _ _ ⟨rfl, rfl⟩
    rw [show chk zVal = 1 from rfl]
    repeat (first | ((with_reducible refine Tr.step rfl ?_); (first | ((with_reducible refine Knd.assign ?_); (refine Exec.stab rfl (Stab.assign rfl) rfl ?_)) | ((with_reducible refine Knd.binOp ?_); ((refine Exec.stab rfl (Stab.int rfl rfl rfl) rfl ?_))))) | (with_reducible refine Tr.next ?_) | (with_reducible refine Tr.nil ?_) | (with_reducible refine Tr.ret ?_))
    (refine Tr.done (by first | exact .inl rfl | exact .inr rfl) rfl (by repeat (first | exact RVs.nil | (apply RVs.cons; (exact RV.tmp rfl)))) (by first | exact Mem.le.refl _ | assumption) (by exact ⟨[_], rfl⟩) ⟨rfl, ?_⟩)
    rfl
end Go.Proofs.Ytgcjpicnibeemaa
