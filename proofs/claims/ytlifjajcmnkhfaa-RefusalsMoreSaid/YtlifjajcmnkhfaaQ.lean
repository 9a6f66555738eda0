/-
  Refusals: the row of RefusalsMore.
  Conditions: none.
-/
import Derived.Test.YtlifjajcmnkhfaaQBfSl
import Derived.Test.YtlifjajcmnkhfaaQBfRow
import Derived.Test.YtlifjajcmnkhfaaRows
import Derived.ProofKit
import Derived.Test.YtlifjajcmnkhfaaQXs
import Derived.Test.YtlifjajcmnkhfaaQc
/-
  Refusals: the sample of the statements, walked.
  Conditions: none.
-/
namespace Go.Proofs.Ytlifjajcmnkhfaa
open Go Bf
attribute [local irreducible] Tr Exec Stab HasTy Go.Addr.add IntKind.wrap
theorem rwd_w0 (M : Mem) : RWd M [.slice none 0 0, .slice none 0 0, .slice none 0 0, .slice none 0 0, .slice none 0 0, .slice none 0 0, .slice none 0 0, .slice none 0 0, .slice none 0 0, .slice none 0 0, .slice none 0 0] w0 :=
  ⟨rfl, by repeat (first | exact AllOne.nil | refine AllOne.cons (by rfl) ?_), ⟨none, 0, rfl, SlOf.nil _ _ _⟩, none, 0, rfl, SlOf.nil _ _ _⟩
def wsB (b : Nat) : List Value := [.slice none 0 0, .slice none 0 0, .slice none 0 0, .slice none 0 0, .slice none 0 0, .slice none 0 0, .slice none 0 0, .slice none 0 0, .slice none 0 0, .slice none 0 0, .slice (some ⟨b, 0, none⟩) 1 1]
theorem rwd_w1 {M : Mem} {b t : Nat} (h : (box b t [.int .i64 7, .int .i64 9, .int .i64 0, .int .i64 1, .int .i64 0, .int .i64 1024, .int .i64 1, .int .i64 0]).ok M) : RWd M (wsB b) w1 :=
  ⟨rfl, by unfold wsB; repeat (first | exact AllOne.nil | refine AllOne.cons (by rfl) ?_), ⟨none, 0, rfl, SlOf.nil _ _ _⟩, some ⟨b, 0, none⟩, 1, rfl, SlOf.ofBoxC (sz := 8) (n := 1) (c := 1) (xs := w1.facts) h rfl rfl (Nat.le_refl _) (by decide) (fcC_one ⟨barK, 1, 0, 1024, 1, 0⟩) (fcC_elems M w1.facts)⟩
theorem one_ofBox {M : Mem} {b t : Nat} {x : Int} (h : (box b t [.int .i64 x]).ok M) : Ints M (.slice (some ⟨b, 0, none⟩) 1 1) [x] :=
  SlOf.ofBoxC (sz := 1) (n := 1) (c := 1) (xs := [x]) h rfl rfl (Nat.le_refl _) (by decide) (intV_one [x]) (RI.elems M [x])
set_option maxHeartbeats 32000000 in
set_option maxRecDepth 20000 in
theorem sane_fn (M : Mem) : Fn0 Try.prog 6 [] M (fun v _ => v = .bool true) := by
  refine Fn.intro Try.func6 rfl rfl Try.ntmps6 rfl fun E F => ?_
  have hw0 := rwd_w0 M
  have e0 : ([] : List Int).length = 0 := rfl
  have e0k : ([] : List Ky).length = 0 := rfl
  (repeat (first | ((with_reducible refine Tr.step rfl ?_); (first | (refine xaQ (z := ?_)) | ((with_reducible refine Knd.build ?_); (refine Exec.stab rfl (Stab.build tysOk rfl rfl rfl rfl (by repeat (first | exact BuildP.nil | ((apply BuildP.one); (rfl); (rfl); (first | rfl | assumption); (repeat (first | exact SetL.z | apply SetL.s))) | ((apply BuildP.many); (rfl); (rfl); (rfl); (rfl); (repeat (first | exact PutL.nil | ((apply PutL.cons); (repeat (first | exact SetL.z | apply SetL.s))))))))) rfl ?_)))) | (with_reducible first | apply Tr.next | apply Tr.seq | apply Tr.region | apply Tr.nil)))
  ((refine Tr.step rfl ?_)); refine Exec.call0 rfl (new_fn M _ w0 hw0 none 0 [] (SlOf.nil _ _ _) 1) rfl ?_
  rintro _ M1 hM1 (⟨hbad, -⟩ | ⟨-, hbad, -⟩ | ⟨-, -, x, rfl, hx⟩)
  · exact absurd (by decide) hbad
  · exact absurd (by decide) hbad
  rw [k0_mk] at hx
  obtain ⟨z1, z2, z3, z4, z5, z6, z7, z8, rfl⟩ := hx.lit
  (repeat (first | ((with_reducible refine Tr.step rfl ?_); (first | (refine xmQ (z := ?_)) | (refine xaQ (z := ?_)) | (refine xwQ (z := ?_)) | ((with_reducible refine Knd.store ?_); (refine Exec.storeW rfl rfl (tysOk.get rfl) (by repeat (first | exact Upd.here | apply Upd.there)) rfl rfl (by repeat (first | (with_reducible assumption) | exact AllOne.nil | exact AllOne.bytes _ | refine AllOne.cons (by first | rfl | assumption) ?_)) ?_)) | ((with_reducible refine Knd.alloc ?_); (refine Exec.alloc (tysOk.get rfl) rfl rfl (fun b => ?_))) | ((with_reducible refine Knd.extract ?_); (refine Exec.stab rfl (Stab.extract rfl rfl) rfl ?_)) | ((with_reducible refine Knd.build ?_); (refine Exec.stab rfl (Stab.build tysOk rfl rfl rfl rfl (by repeat (first | exact BuildP.nil | ((apply BuildP.one); (rfl); (rfl); (first | rfl | assumption); (repeat (first | exact SetL.z | apply SetL.s))) | ((apply BuildP.many); (rfl); (rfl); (rfl); (rfl); (repeat (first | exact PutL.nil | ((apply PutL.cons); (repeat (first | exact SetL.z | apply SetL.s))))))))) rfl ?_)))) | (with_reducible first | apply Tr.next | apply Tr.seq | apply Tr.region | apply Tr.nil)))
  ((refine Tr.step rfl ?_)); refine Exec.call0 rfl (least_fn M1 _ w0 (rwd_w0 M1) _ k0 hx r1) rfl ?_
  rintro _ M2 hM2 (⟨hne, -⟩ | ⟨-, -, hF, -⟩ | ⟨-, -, -, BM2, cM2, rfl, gM2⟩)
  · exact absurd ask_r1 hne
  · exact absurd hF fe_r1
  rw [le_r1] at gM2 ⊢
  have hx2 := hx.mono hM2
  (repeat (first | ((with_reducible refine Tr.step rfl ?_); (first | (refine xmQ (z := ?_)) | (refine xaQ (z := ?_)) | (refine xwQ (z := ?_)) | ((with_reducible refine Knd.extract ?_); (refine Exec.stab rfl (Stab.extract rfl rfl) rfl ?_)) | ((with_reducible refine Knd.build ?_); (refine Exec.stab rfl (Stab.build tysOk rfl rfl rfl rfl (by repeat (first | exact BuildP.nil | ((apply BuildP.one); (rfl); (rfl); (first | rfl | assumption); (repeat (first | exact SetL.z | apply SetL.s))) | ((apply BuildP.many); (rfl); (rfl); (rfl); (rfl); (repeat (first | exact PutL.nil | ((apply PutL.cons); (repeat (first | exact SetL.z | apply SetL.s))))))))) rfl ?_)))) | (with_reducible first | apply Tr.next | apply Tr.seq | apply Tr.region | apply Tr.nil)))
  ((refine Tr.step rfl ?_)); refine Exec.call0 rfl (least_fn M2 _ w0 (rwd_w0 M2) _ k0 hx2 r0) rfl ?_
  rintro _ M3 hM3 (⟨hne, -⟩ | ⟨-, -, -, rfl⟩ | ⟨-, -, hF, -⟩)
  · exact absurd ask_r0 hne
  rotate_left
  · exact absurd fe_r0 hF
  have hx3 := hx2.mono hM3
  (repeat (first | ((with_reducible refine Tr.step rfl ?_); (first | (refine xmQ (z := ?_)) | (refine xaQ (z := ?_)) | (refine xwQ (z := ?_)) | ((with_reducible refine Knd.extract ?_); (refine Exec.stab rfl (Stab.extract rfl rfl) rfl ?_)) | ((with_reducible refine Knd.build ?_); (refine Exec.stab rfl (Stab.build tysOk rfl rfl rfl rfl (by repeat (first | exact BuildP.nil | ((apply BuildP.one); (rfl); (rfl); (first | rfl | assumption); (repeat (first | exact SetL.z | apply SetL.s))) | ((apply BuildP.many); (rfl); (rfl); (rfl); (rfl); (repeat (first | exact PutL.nil | ((apply PutL.cons); (repeat (first | exact SetL.z | apply SetL.s))))))))) rfl ?_)))) | (with_reducible first | apply Tr.next | apply Tr.seq | apply Tr.region | apply Tr.nil)))
  ((refine Tr.step rfl ?_)); refine Exec.call0 rfl (facts_fn M3 _ w0 (rwd_w0 M3) (by decide) _ k0 hx3 r1) rfl ?_
  rintro _ M4 hM4 (⟨hne, -⟩ | ⟨-, -, hF, -⟩ | ⟨-, -, -, BM4, cM4, rfl, gM4⟩)
  · exact absurd ask_r1 hne
  · exact absurd hF fe_r1
  rw [fa_r1] at gM4 ⊢
  have hx4 := hx3.mono hM4
  (repeat (first | ((with_reducible refine Tr.step rfl ?_); (first | (refine xmQ (z := ?_)) | (refine xaQ (z := ?_)) | (refine xwQ (z := ?_)) | ((with_reducible refine Knd.extract ?_); (refine Exec.stab rfl (Stab.extract rfl rfl) rfl ?_)) | ((with_reducible refine Knd.build ?_); (refine Exec.stab rfl (Stab.build tysOk rfl rfl rfl rfl (by repeat (first | exact BuildP.nil | ((apply BuildP.one); (rfl); (rfl); (first | rfl | assumption); (repeat (first | exact SetL.z | apply SetL.s))) | ((apply BuildP.many); (rfl); (rfl); (rfl); (rfl); (repeat (first | exact PutL.nil | ((apply PutL.cons); (repeat (first | exact SetL.z | apply SetL.s))))))))) rfl ?_)))) | (with_reducible first | apply Tr.next | apply Tr.seq | apply Tr.region | apply Tr.nil)))
  ((refine Tr.step rfl ?_)); refine Exec.call0 rfl (rcheck_fn M4 _ w0 (rwd_w0 M4) _ k0 hx4 r1 none 0 [] (SlOf.nil _ _ _) (by decide)) rfl ?_
  rintro _ M5 hM5 (⟨hne, -⟩ | ⟨-, -, c1, rfl, hc1⟩)
  · exact absurd ask_r1 hne
  obtain rfl := hc1.2 ch_r1
  have hM15 := hM1.trans (hM2.trans (hM3.trans (hM4.trans hM5)))
  clear hx hx2 hx3 hx4 hw0
  (repeat (first | ((with_reducible refine Tr.step rfl ?_); (first | (refine xmQ (z := ?_)) | (refine xaQ (z := ?_)) | (refine xwQ (z := ?_)) | ((with_reducible refine Knd.store ?_); (refine Exec.storeW rfl rfl (tysOk.get rfl) (by repeat (first | exact Upd.here | apply Upd.there)) rfl rfl (by repeat (first | (with_reducible assumption) | exact AllOne.nil | exact AllOne.bytes _ | refine AllOne.cons (by first | rfl | assumption) ?_)) ?_)) | ((with_reducible refine Knd.alloc ?_); (refine Exec.alloc (tysOk.get rfl) rfl rfl (fun b => ?_))) | ((with_reducible refine Knd.extract ?_); (refine Exec.stab rfl (Stab.extract rfl rfl) rfl ?_)) | ((with_reducible refine Knd.build ?_); (refine Exec.stab rfl (Stab.build tysOk rfl rfl rfl rfl (by repeat (first | exact BuildP.nil | ((apply BuildP.one); (rfl); (rfl); (first | rfl | assumption); (repeat (first | exact SetL.z | apply SetL.s))) | ((apply BuildP.many); (rfl); (rfl); (rfl); (rfl); (repeat (first | exact PutL.nil | ((apply PutL.cons); (repeat (first | exact SetL.z | apply SetL.s))))))))) rfl ?_)) | ((with_reducible refine Knd.buildSlice ?_); (refine Exec.buildSlice (tysOk.get rfl) rfl (tysOk.get rfl) rfl rfl rfl rfl rfl (by repeat (first | exact BuildP.nil | ((apply BuildP.one); (rfl); (rfl); (first | rfl | assumption); (repeat (first | exact SetL.z | apply SetL.s))) | ((apply BuildP.many); (rfl); (rfl); (rfl); (rfl); (repeat (first | exact PutL.nil | ((apply PutL.cons); (repeat (first | exact SetL.z | apply SetL.s)))))))) rfl (fun b => ?_))))) | (with_reducible first | apply Tr.next | apply Tr.seq | apply Tr.region | apply Tr.nil)))
  refine pbQ (r := box _ 77 _) (k := fun M6 hM6 hok6 => ?_)
  refine pbQ (r := box _ 75 _) (k := fun M7 hM7 hok7 => ?_)
  have hok6 : (box _ 77 (spC ⟨4, 0, 0, 0, 9, 3⟩)).ok M6 := hok6
  have hs1 : SlOf 6 RSpC M7 (.slice (some ⟨_, 0, none⟩) 1 1) s1 := (SlOf.ofBoxC (sz := 6) (n := 1) (c := 1) (xs := s1) hok6 rfl rfl (Nat.le_refl _) (by decide) (spC_one _) (spC_elems M6 s1)).mono RSpC.mono hM7
  have hw1 := rwd_w1 hok7
  ((refine Tr.step rfl ?_)); refine Exec.call0 rfl (new_fn M7 _ w1 hw1 _ 1 s1 hs1 1) rfl ?_
  rintro _ M8 hM8 (⟨hbad, -⟩ | ⟨-, hbad, -⟩ | ⟨-, -, x, rfl, hx⟩)
  · exact absurd (by decide) hbad
  · exact absurd (by decide) hbad
  rw [k1_mk] at hx
  obtain ⟨y1, y2, y3, y4, y5, y6, y7, y8, rfl⟩ := hx.lit
  have hw8 := hw1.mono hM8
  (repeat (first | ((with_reducible refine Tr.step rfl ?_); (first | (refine xmQ (z := ?_)) | (refine xaQ (z := ?_)) | (refine xwQ (z := ?_)) | ((with_reducible refine Knd.store ?_); (refine Exec.storeW rfl rfl (tysOk.get rfl) (by repeat (first | exact Upd.here | apply Upd.there)) rfl rfl (by repeat (first | (with_reducible assumption) | exact AllOne.nil | exact AllOne.bytes _ | refine AllOne.cons (by first | rfl | assumption) ?_)) ?_)) | ((with_reducible refine Knd.alloc ?_); (refine Exec.alloc (tysOk.get rfl) rfl rfl (fun b => ?_))) | ((with_reducible refine Knd.extract ?_); (refine Exec.stab rfl (Stab.extract rfl rfl) rfl ?_)) | ((with_reducible refine Knd.build ?_); (refine Exec.stab rfl (Stab.build tysOk rfl rfl rfl rfl (by repeat (first | exact BuildP.nil | ((apply BuildP.one); (rfl); (rfl); (first | rfl | assumption); (repeat (first | exact SetL.z | apply SetL.s))) | ((apply BuildP.many); (rfl); (rfl); (rfl); (rfl); (repeat (first | exact PutL.nil | ((apply PutL.cons); (repeat (first | exact SetL.z | apply SetL.s))))))))) rfl ?_)))) | (with_reducible first | apply Tr.next | apply Tr.seq | apply Tr.region | apply Tr.nil)))
  ((refine Tr.step rfl ?_)); refine Exec.call0 rfl (askA_fn M8 _ w1 hw8 _ k1 hx (by decide) q7) rfl ?_
  rintro _ M9 hM9 (⟨-, -, x, a, rfl, D, cD, hD, ⟨hF, hx, al, A, c, hlex, rfl, hal⟩ | ⟨hF, -⟩⟩ | ⟨hne, -⟩)
  rotate_left
  · exact absurd fe_q7 hF
  · exact absurd ask_q7 hne
  rw [k2_mk] at hx
  obtain ⟨v1, v2, v3, v4, v5, v6, v7, v8, rfl⟩ := hx.lit
  have hw9 := hw8.mono hM9
  (repeat (first | ((with_reducible refine Tr.step rfl ?_); (first | (refine xmQ (z := ?_)) | (refine xaQ (z := ?_)) | (refine xwQ (z := ?_)) | ((with_reducible refine Knd.store ?_); (refine Exec.storeW rfl rfl (tysOk.get rfl) (by repeat (first | exact Upd.here | apply Upd.there)) rfl rfl (by repeat (first | (with_reducible assumption) | exact AllOne.nil | exact AllOne.bytes _ | refine AllOne.cons (by first | rfl | assumption) ?_)) ?_)) | ((with_reducible refine Knd.alloc ?_); (refine Exec.alloc (tysOk.get rfl) rfl rfl (fun b => ?_))) | ((with_reducible refine Knd.extract ?_); (refine Exec.stab rfl (Stab.extract rfl rfl) rfl ?_)) | ((with_reducible refine Knd.build ?_); (refine Exec.stab rfl (Stab.build tysOk rfl rfl rfl rfl (by repeat (first | exact BuildP.nil | ((apply BuildP.one); (rfl); (rfl); (first | rfl | assumption); (repeat (first | exact SetL.z | apply SetL.s))) | ((apply BuildP.many); (rfl); (rfl); (rfl); (rfl); (repeat (first | exact PutL.nil | ((apply PutL.cons); (repeat (first | exact SetL.z | apply SetL.s))))))))) rfl ?_)))) | (with_reducible first | apply Tr.next | apply Tr.seq | apply Tr.region | apply Tr.nil)))
  ((refine Tr.step rfl ?_)); refine Exec.call0 rfl (least_fn M9 _ w1 hw9 _ k2 hx qr) rfl ?_
  rintro _ M10 hM10 (⟨hne, -⟩ | ⟨-, -, hF, -⟩ | ⟨-, -, -, BM10, cM10, rfl, gM10⟩)
  · exact absurd ask_qr hne
  · exact absurd hF fe_qr
  rw [le_qr] at gM10 ⊢
  have hx10 := hx.mono hM10
  have hw10 := hw9.mono hM10
  (repeat (first | ((with_reducible refine Tr.step rfl ?_); (first | (refine xmQ (z := ?_)) | (refine xaQ (z := ?_)) | (refine xwQ (z := ?_)) | ((with_reducible refine Knd.extract ?_); (refine Exec.stab rfl (Stab.extract rfl rfl) rfl ?_)))) | (with_reducible first | apply Tr.next | apply Tr.seq | apply Tr.region | apply Tr.nil)))
  ((refine Tr.step rfl ?_)); refine Exec.call0 rfl (least_fn M10 _ w1 hw10 _ k2 hx10 qs) rfl ?_
  rintro _ M11 hM11 (⟨hne, -⟩ | ⟨-, -, hF, -⟩ | ⟨-, -, -, BM11, cM11, rfl, gM11⟩)
  · exact absurd ask_qs hne
  · exact absurd hF fe_qs
  rw [le_qs] at gM11 ⊢
  have hx11 := hx10.mono hM11
  have hw11 := hw10.mono hM11
  (repeat (first | ((with_reducible refine Tr.step rfl ?_); (first | (refine xmQ (z := ?_)) | (refine xaQ (z := ?_)) | (refine xwQ (z := ?_)) | ((with_reducible refine Knd.extract ?_); (refine Exec.stab rfl (Stab.extract rfl rfl) rfl ?_)))) | (with_reducible first | apply Tr.next | apply Tr.seq | apply Tr.region | apply Tr.nil)))
  ((refine Tr.step rfl ?_)); refine Exec.call0 rfl (facts_fn M11 _ w1 hw11 (by decide) _ k2 hx11 qs) rfl ?_
  rintro _ M12 hM12 (⟨hne, -⟩ | ⟨-, -, hF, -⟩ | ⟨-, -, -, BM12, cM12, rfl, gM12⟩)
  · exact absurd ask_qs hne
  · exact absurd hF fe_qs
  rw [fa_qs] at gM12 ⊢
  have hx12 := hx11.mono hM12
  have hw12 := hw11.mono hM12
  (repeat (first | ((with_reducible refine Tr.step rfl ?_); (first | (refine xmQ (z := ?_)) | (refine xaQ (z := ?_)) | (refine xwQ (z := ?_)) | ((with_reducible refine Knd.extract ?_); (refine Exec.stab rfl (Stab.extract rfl rfl) rfl ?_)))) | (with_reducible first | apply Tr.next | apply Tr.seq | apply Tr.region | apply Tr.nil)))
  ((refine Tr.step rfl ?_)); refine Exec.call0 rfl (facts_fn M12 _ w1 hw12 (by decide) _ k2 hx12 qr) rfl ?_
  rintro _ M13 hM13 (⟨hne, -⟩ | ⟨-, -, hF, -⟩ | ⟨-, -, -, BM13, cM13, rfl, gM13⟩)
  · exact absurd ask_qr hne
  · exact absurd hF fe_qr
  rw [fa_qr] at gM13 ⊢
  have hx13 := hx12.mono hM13
  have hw13 := hw12.mono hM13
  (repeat (first | ((with_reducible refine Tr.step rfl ?_); (first | (refine xmQ (z := ?_)) | (refine xaQ (z := ?_)) | (refine xwQ (z := ?_)) | ((with_reducible refine Knd.extract ?_); (refine Exec.stab rfl (Stab.extract rfl rfl) rfl ?_)) | ((with_reducible refine Knd.buildSlice ?_); (refine Exec.buildSlice (tysOk.get rfl) rfl (tysOk.get rfl) rfl rfl rfl rfl rfl (by repeat (first | exact BuildP.nil | ((apply BuildP.one); (rfl); (rfl); (first | rfl | assumption); (repeat (first | exact SetL.z | apply SetL.s))) | ((apply BuildP.many); (rfl); (rfl); (rfl); (rfl); (repeat (first | exact PutL.nil | ((apply PutL.cons); (repeat (first | exact SetL.z | apply SetL.s)))))))) rfl (fun b => ?_))))) | (with_reducible first | apply Tr.next | apply Tr.seq | apply Tr.region | apply Tr.nil)))
  refine pbQ (r := box _ 3 _) (k := fun M14 hM14 hok14 => ?_)
  ((refine Tr.step rfl ?_)); refine Exec.call0 rfl (rcheck_fn M14 _ w1 (hw13.mono hM14) _ k2 (hx13.mono hM14) qr _ 1 [7] (one_ofBox hok14) (by decide)) rfl ?_
  rintro _ M15 hM15' (⟨hne, -⟩ | ⟨-, -, c2, rfl, hc2⟩)
  · exact absurd ask_qr hne
  obtain rfl := hc2.2 ch_qr
  have hw15 := (hw13.mono hM14).mono hM15'
  have hx15 := (hx13.mono hM14).mono hM15'
  (repeat (first | ((with_reducible refine Tr.step rfl ?_); (first | (refine xmQ (z := ?_)) | (refine xaQ (z := ?_)) | (refine xwQ (z := ?_)) | ((with_reducible refine Knd.extract ?_); (refine Exec.stab rfl (Stab.extract rfl rfl) rfl ?_)))) | (with_reducible first | apply Tr.next | apply Tr.seq | apply Tr.region | apply Tr.nil)))
  ((refine Tr.step rfl ?_)); refine Exec.call0 rfl (rcheck_fn M15 _ w1 hw15 _ k2 hx15 qr none 0 [] (SlOf.nil _ _ _) (by decide)) rfl ?_
  rintro _ M16 hM16 (⟨hne, -⟩ | ⟨-, -, c3, rfl, hc3⟩)
  · exact absurd ask_qr hne
  have hc3 : c3 = false := by cases c3 with
    | false => rfl
    | true => exact absurd (hc3.1 rfl) ch_no
  subst hc3
  (repeat (first | ((with_reducible refine Tr.step rfl ?_); (first | (refine xmQ (z := ?_)) | (refine xaQ (z := ?_)) | (refine xnQ (z := ?_)) | (refine xiQ (z := ?_)) | ((with_reducible refine Knd.pick ?_); (first | (refine Exec.stab rfl (Stab.pick_f rfl (by first | (with_reducible rfl) | (with_reducible assumption) | (with_reducible exact Bool.not_true) | (with_reducible exact Bool.not_false)) rfl) rfl ?_) | (refine Exec.stab rfl (Stab.pick_td rfl (by first | (with_reducible assumption) | (with_reducible rfl) | (with_reducible exact (not_not_intro rfl)) | omega) rfl) rfl ?_) | (refine Exec.stab rfl (Stab.pick_fd rfl (by first | (with_reducible assumption) | (with_reducible rfl) | (with_reducible exact (not_not_intro rfl)) | omega) rfl) rfl ?_))) | ((with_reducible refine Knd.extract ?_); (refine Exec.stab rfl (Stab.extract rfl rfl) rfl ?_)))) | (with_reducible first | apply Tr.next | apply Tr.seq | apply Tr.region | apply Tr.nil) | ((refine Tr.guard_l rfl rfl rfl (by first | (with_reducible rfl) | (with_reducible assumption) | (with_reducible exact Bool.not_true) | (with_reducible exact Bool.not_false)) ?_); (first | (refine xmQ (z := ?_)) | (refine xiQ (z := ?_)) | ((with_reducible refine Knd.buildSlice ?_); (refine Exec.buildSlice (tysOk.get rfl) rfl (tysOk.get rfl) rfl rfl rfl rfl rfl (by repeat (first | exact BuildP.nil | ((apply BuildP.one); (rfl); (rfl); (first | rfl | assumption); (repeat (first | exact SetL.z | apply SetL.s))) | ((apply BuildP.many); (rfl); (rfl); (rfl); (rfl); (repeat (first | exact PutL.nil | ((apply PutL.cons); (repeat (first | exact SetL.z | apply SetL.s)))))))) rfl (fun b => ?_))))) | ((refine Tr.guard_y rfl rfl rfl (by first | (with_reducible assumption) | (with_reducible rfl) | (with_reducible exact (not_not_intro rfl)) | omega) ?_); (first | (refine xmQ (z := ?_)) | (refine xnQ (z := ?_)) | (refine xiQ (z := ?_)))) | ((refine Tr.guard_y' rfl rfl rfl (by first | (with_reducible assumption) | (with_reducible rfl) | (with_reducible exact (not_not_intro rfl)) | omega) ?_); (first | (refine xmQ (z := ?_)) | (refine xlQ (z := ?_)) | (refine xfQ (z := ?_)) | (refine xiQ (z := ?_)) | ((with_reducible refine Knd.unOp ?_); (refine Exec.stab rfl (Stab.not rfl) rfl ?_)))) | (with_reducible refine Tr.skip ?_) | (refine Tr.cond_f rfl (by first | (with_reducible assumption) | (with_reducible rfl) | (with_reducible exact (not_not_intro rfl)) | omega) ?_)))
  refine pbQ (r := box _ 3 _) (k := fun M17 hM17 hok17 => ?_)
  have hm1017 := hM11.trans (hM12.trans (hM13.trans (hM14.trans (hM15'.trans (hM16.trans hM17)))))
  ((refine Tr.guard_l rfl rfl rfl (by first | (with_reducible rfl) | (with_reducible assumption) | (with_reducible exact Bool.not_true) | (with_reducible exact Bool.not_false)) ?_)); refine Exec.call0 rfl (sameInts_fn M17 [7] [7] _ _ _ 1 (gM10.mono RI.mono hm1017) (one_ofBox hok17)) rfl ?_
  rintro _ _ _ ⟨rfl, rfl⟩
  rw [decide_eq_true (rfl : ([7] : List Int) = [7])]
  (repeat (first | ((with_reducible refine Tr.step rfl ?_); (first | (refine xmQ (z := ?_)) | ((with_reducible refine Knd.pick ?_); (refine Exec.stab rfl (Stab.pick_t rfl (by first | (with_reducible rfl) | (with_reducible assumption) | (with_reducible exact Bool.not_true) | (with_reducible exact Bool.not_false)) rfl) rfl ?_)))) | ((refine Tr.guard_l rfl rfl rfl (by first | (with_reducible rfl) | (with_reducible assumption) | (with_reducible exact Bool.not_true) | (with_reducible exact Bool.not_false)) ?_); (first | (refine xmQ (z := ?_)) | (refine xnQ (z := ?_)) | (refine xiQ (z := ?_)))) | ((refine Tr.guard_y rfl rfl rfl (by first | (with_reducible assumption) | (with_reducible rfl) | (with_reducible exact (not_not_intro rfl)) | omega) ?_); (first | (refine xmQ (z := ?_)) | (refine xwQ (z := ?_)) | ((with_reducible refine Knd.buildSlice ?_); (refine Exec.buildSlice (tysOk.get rfl) rfl (tysOk.get rfl) rfl rfl rfl rfl rfl (by repeat (first | exact BuildP.nil | ((apply BuildP.one); (rfl); (rfl); (first | rfl | assumption); (repeat (first | exact SetL.z | apply SetL.s))) | ((apply BuildP.many); (rfl); (rfl); (rfl); (rfl); (repeat (first | exact PutL.nil | ((apply PutL.cons); (repeat (first | exact SetL.z | apply SetL.s)))))))) rfl (fun b => ?_)))))))
  refine pbQ (r := box _ 71 [.int .i64 7, .int .i64 9, .int .i64 0]) (k := fun M18 hM18 hok18 => ?_)
  have hok18 : (box _ 71 (kyC barK)).ok M18 := hok18
  have hk18 : SlOf 3 RKy M18 (.slice (some ⟨_, 0, none⟩) 1 1) [barK] := SlOf.ofBoxC (sz := 3) (n := 1) (c := 1) (xs := [barK]) hok18 rfl rfl (Nat.le_refl _) (by decide) (kyC_one barK) (kyC_elems M18 [barK])
  have hm1218 := hM13.trans (hM14.trans (hM15'.trans (hM16.trans (hM17.trans hM18))))
  ((refine Tr.guard_y rfl rfl rfl (by first | (with_reducible assumption) | (with_reducible rfl) | (with_reducible exact (not_not_intro rfl)) | omega) ?_)); refine Exec.call0 rfl (sameKys_fn M18 [barK] [barK] _ _ _ 1 (gM12.mono RKy.mono hm1218) hk18) rfl ?_
  rintro _ _ _ ⟨rfl, rfl⟩
  rw [decide_eq_true (rfl : ([barK] : List Ky) = [barK])]
  (repeat (first | ((with_reducible refine Tr.step rfl ?_); (first | (refine xmQ (z := ?_)) | (refine xaQ (z := ?_)) | ((with_reducible refine Knd.pick ?_); (first | (refine Exec.stab rfl (Stab.pick_t rfl (by first | (with_reducible rfl) | (with_reducible assumption) | (with_reducible exact Bool.not_true) | (with_reducible exact Bool.not_false)) rfl) rfl ?_) | (refine Exec.stab rfl (Stab.pick_td rfl (by first | (with_reducible assumption) | (with_reducible rfl) | (with_reducible exact (not_not_intro rfl)) | omega) rfl) rfl ?_))))) | (with_reducible first | apply Tr.next | apply Tr.nil) | ((refine Tr.guard_l rfl rfl rfl (by first | (with_reducible rfl) | (with_reducible assumption) | (with_reducible exact Bool.not_true) | (with_reducible exact Bool.not_false)) ?_); (first | (refine xmQ (z := ?_)) | (refine xnQ (z := ?_)) | (refine xiQ (z := ?_)) | ((with_reducible refine Knd.unOp ?_); (refine Exec.stab rfl (Stab.not rfl) rfl ?_)))) | ((refine Tr.guard_y rfl rfl rfl (by first | (with_reducible assumption) | (with_reducible rfl) | (with_reducible exact (not_not_intro rfl)) | omega) ?_); (with_reducible refine Knd.move ?_); (refine xmQ (z := ?_))) | (with_reducible refine Tr.ret ?_)))
  have hmm := hM15.trans (hM6.trans (hM7.trans (hM8.trans (hM9.trans (hM10.trans (hm1017.trans hM18))))))
  (refine dnQ (hL := by exact ⟨[_, _, _, _, _, _, _, _], rfl⟩) (k := ⟨rfl, ?_⟩))
  rfl
end Go.Proofs.Ytlifjajcmnkhfaa

/-
  Refusals, plain: what Least answers explains the refusal, and nothing of it can be left out; what Check accepts.
  Conditions: none.
-/
namespace Go.Proofs.Ytlifjajcmnkhfaa
open Go Bf
theorem keep_congr {α : Type} {o o' : Nat → Bool} : ∀ {l : List α} {i : Nat}, (∀ c, i ≤ c → o c = o' c) → keep o l i = keep o' l i
  | [], _, _ => rfl
  | x :: l, i, h => by
    rw [keep, keep, h i (Nat.le_refl _), keep_congr (l := l) (i := i + 1) (fun c hc => h c (by omega))]
theorem keep_sub {α : Type} {o : Nat → Bool} : ∀ {l : List α} {i : Nat}, (keep o l i).Sublist l
  | [], _ => List.Sublist.slnil
  | x :: l, i => by
    rw [keep]
    split
    · exact (keep_sub (l := l)).cons x
    · exact (keep_sub (l := l)).cons_cons x
theorem keep_erase {α : Type} {o : Nat → Bool} : ∀ {l : List α} {i n : Nat}, n < (keep o l i).length → ∃ j, i ≤ j ∧ j < i + l.length ∧ o j = false ∧ keep (fun c => o c || decide (c = j)) l i = (keep o l i).eraseIdx n
  | [], _, n, h => by simp [keep] at h
  | x :: l, i, n, h => by
    rw [keep] at h
    split at h
    · rename_i ho
      obtain ⟨j, h1, h2, h3, h4⟩ := keep_erase h
      refine ⟨j, by omega, by rw [List.length_cons]; omega, h3, ?_⟩
      rw [keep, keep, if_pos ho, if_pos (by rw [ho]; rfl), h4]
    · rename_i ho
      cases n with
      | zero =>
        refine ⟨i, Nat.le_refl _, by rw [List.length_cons]; omega, by simpa using ho, ?_⟩
        rw [keep, keep, if_neg ho, if_pos (by simp), List.eraseIdx_cons_zero]
        exact keep_congr fun c hc => by simp [show c ≠ i by omega]
      | succ n =>
        obtain ⟨j, h1, h2, h3, h4⟩ := keep_erase (l := l) (i := i + 1) (n := n) (by simpa using h)
        refine ⟨j, by omega, by rw [List.length_cons]; omega, h3, ?_⟩
        rw [keep, keep, if_neg ho, if_neg (by simp [show i ≠ j by omega]; simpa using ho), h4, List.eraseIdx_cons_succ]
theorem keep_snoc {α : Type} (o : Nat → Bool) (l : List α) (x : α) : keep o (l ++ [x]) 0 = keep o l 0 ++ if o l.length = true then [] else [x] := by
  have h := keep_take o (l ++ [x]) 0 l.length x (by simp)
  simp only [Nat.zero_add, List.take_left'] at h
  rw [← h, List.take_of_length_le (by simp)]
/-- the numbers of some requests say which -/
theorem pick_sub : ∀ {l K : List Rq}, K.Sublist l → (l.map (·.no)).Nodup → l.flatMap (pickY (K.map (·.no))) = K
  | _, _, .slnil, _ => rfl
  | x :: l, K, .cons _ h, hn => by
    rw [List.map_cons, List.nodup_cons] at hn
    rw [List.flatMap_cons, pick_sub h hn.2]
    have : pickY (K.map (·.no)) x = [] := by
      unfold pickY
      rw [List.map_eq_nil_iff, List.filter_eq_nil_iff]
      intro n hm he
      have he : x.no = n := by simpa using he
      subst he
      exact hn.1 ((h.map (·.no)).subset hm)
    rw [this, List.nil_append]
  | x :: l, _, .cons_cons (l₁ := K) _ h, hn => by
    rw [List.map_cons, List.nodup_cons] at hn
    rw [List.flatMap_cons]
    have e1 : pickY ((x :: K).map (·.no)) x = [x] := by
      unfold pickY
      rw [List.map_cons, List.filter_cons_of_pos (by simp)]
      have : (List.filter (fun n => decide (x.no = n)) (K.map (·.no))) = [] := by
        rw [List.filter_eq_nil_iff]
        intro n hm he
        have he : x.no = n := by simpa using he
        subst he
        exact hn.1 ((h.map (·.no)).subset hm)
      rw [this]; rfl
    have e2 : l.flatMap (pickY ((x :: K).map (·.no))) = l.flatMap (pickY (K.map (·.no))) := by
      unfold List.flatMap
      congr 1
      refine List.map_congr_left fun y hy => ?_
      unfold pickY
      rw [List.map_cons, List.filter_cons_of_neg]
      simp only [decide_eq_true_eq]
      intro e
      exact hn.1 (e ▸ List.mem_map_of_mem hy)
    rw [e1, e2, pick_sub h hn.2]
    rfl
theorem idxN_at {l : List Rq} (hn : (l.map (·.no)).Nodup) {j : Nat} {y : Rq} (hy : l[j]? = some y) : idxN l y.no = some j := by
  obtain ⟨h1, h2⟩ := List.getElem?_eq_some_iff.1 hy
  unfold idxN
  rw [List.findIdx?_eq_some_iff_getElem]
  refine ⟨by simpa using h1, by simp [h2], fun i hi he => ?_⟩
  have he : (l.map (·.no))[i]'(by simp; omega) = y.no := by simpa using he
  have h3 : (l.map (·.no))[j]'(by simpa using h1) = y.no := by simp [h2]
  have := (List.getElem_inj hn).1 (he.trans h3.symm)
  omega
theorem idxN_get {l : List Rq} {n : Int} {j : Nat} (h : idxN l n = some j) : ∃ y, l[j]? = some y ∧ y.no = n := by
  obtain ⟨h1, h2, -⟩ := List.findIdx?_eq_some_iff_getElem.1 h
  have h1' : j < l.length := by simpa using h1
  exact ⟨l[j], List.getElem?_eq_getElem h1', by simpa using h2⟩
theorem posF_of {l : List Rq} (hn : (l.map (·.no)).Nodup) : ∀ {ps : List Nat} {f : Nat}, ps.Pairwise (· < ·) → (∀ p ∈ ps, f ≤ p ∧ p < l.length) → posF l (ps.map fun p => (l.map (·.no)).getD p 0) f = some ps
  | [], _, _, _ => rfl
  | p :: ps, f, hp, hr => by
    rw [List.pairwise_cons] at hp
    have h1 := hr p (by simp)
    obtain ⟨y, hy⟩ := get_of_lt (xs := l) (i := p) h1.2
    have e : (l.map (·.no)).getD p 0 = y.no := by simp [List.getD_eq_getElem?_getD, hy]
    rw [List.map_cons, posF, e, idxN_at hn hy]
    simp only [h1.1, if_true]
    rw [posF_of hn (f := p + 1) hp.2 fun q hq => ⟨hp.1 q hq, (hr q (by simp [hq])).2⟩]
    rfl
theorem posF_inv {l : List Rq} : ∀ {ns : List Int} {f : Nat} {ps : List Nat}, posF l ns f = some ps → ps.Pairwise (· < ·) ∧ (∀ p ∈ ps, f ≤ p ∧ p < l.length) ∧ ns = ps.map fun p => (l.map (·.no)).getD p 0
  | [], _, _, h => by
    rw [posF] at h
    cases h
    exact ⟨.nil, by simp, rfl⟩
  | n :: ns, f, ps, h => by
    rw [posF] at h
    cases hi : idxN l n with
    | none => rw [hi] at h; cases h
    | some j =>
      rw [hi] at h
      simp only at h
      split at h
      · rename_i hj
        cases hq : posF l ns (j + 1) with
        | none => rw [hq] at h; cases h
        | some qs =>
          rw [hq] at h
          cases h
          obtain ⟨h1, h2, h3⟩ := posF_inv hq
          have hl := idxN_lt hi
          obtain ⟨y, hy, rfl⟩ := idxN_get hi
          refine ⟨.cons (fun q hq => by have := (h2 q hq).1; omega) h1, fun q hq => ?_, ?_⟩
          · rcases List.mem_cons.1 hq with rfl | hq
            · exact ⟨hj, hl⟩
            · have := h2 q hq; exact ⟨by omega, this.2⟩
          · rw [List.map_cons, ← h3]
            simp [List.getD_eq_getElem?_getD, hy]
      · cases h
theorem asc_idx {ps : List Nat} {m : Nat} (h1 : ps.Pairwise (· < ·)) (h2 : ∀ p ∈ ps, p < m) (S : Nat → Bool) (hS : ∀ p, p < m → (S p = true ↔ p ∈ ps)) : idx S m = ps := by
  have h3 : (idx S m).Pairwise (· < ·) := List.Pairwise.filter _ List.pairwise_lt_range
  refine List.Perm.eq_of_pairwise (le := (· < ·)) (fun a c _ _ hac hca => by omega) h3 h1 ?_
  rw [List.perm_ext_iff_of_nodup (h3.imp fun h => Nat.ne_of_lt h) (h1.imp fun h => Nat.ne_of_lt h)]
  intro a
  unfold idx
  rw [List.mem_filter, List.mem_range]
  exact ⟨fun h => (hS a h.1).1 h.2, fun h => ⟨h2 a h, (hS a (h2 a h)).2 h⟩⟩
theorem keep_idxN {o : Nat → Bool} (l : List Rq) : (keep o l 0).map (·.no) = (idx (fun i => !o i) l.length).map fun p => (l.map (·.no)).getD p 0 := by
  rw [← keep_mapf, keep_map o 0]
  simp [idx]
end Go.Proofs.Ytlifjajcmnkhfaa

/-
  Matching, plain: problems with more to give, or less to serve.
  Conditions: none.
-/
namespace Go.Proofs.Ytlifjajcmnkhfaa
open Go Bf
/-- where no set lacks more, what was possible remains so -/
theorem feas_mono {p q : Pb} (_ : p.m = q.m) (_ : ∀ k, k < p.n → 0 ≤ p.sup k) (_ : ∀ b, b < p.m → 0 ≤ p.need b) (hqs : ∀ k, k < q.n → 0 ≤ q.sup k) (hqn : ∀ b, b < q.m → 0 ≤ q.need b) (h : ∀ D, lackOf q D ≤ lackOf p D) (hf : Feas p) : Feas q := by
  rw [feas_iff hqs hqn]
  intro D
  exact Int.le_trans (h D) (hf.lack D)
theorem less_need {fits : List (List Bool)} {sup need : List Int} (hv : Vld fits sup need) {i : Nat} {x y : Int} (hi : need[i]? = some x) (hxy : y ≤ x) (hy : 0 ≤ y) (hf : Feas (pbOf fits sup need)) : Vld fits sup (need.set i y) ∧ Feas (pbOf fits sup (need.set i y)) := by
  have hil := (List.getElem?_eq_some_iff.1 hi).1
  have hxr := hv.rn x (List.mem_of_getElem? hi)
  have hv2 : Vld fits sup (need.set i y) := ⟨hv.ls, by simpa using hv.ln, hv.lf, fun r h => by simpa using hv.rows r h, hv.rs, fun z h => by
    rcases List.mem_or_eq_of_mem_set h with h | rfl
    · exact hv.rn z h
    · omega⟩
  refine ⟨hv2, feas_mono (p := pbOf fits sup need) (by simp [pbOf]) hv.sup0 hv.need0 hv2.sup0 hv2.need0 (fun D => ?_) hf⟩
  unfold lackOf
  have h2 : (sumN (pbOf fits sup (need.set i y)).n fun k => if touches (pbOf fits sup (need.set i y)) D k = true then (pbOf fits sup (need.set i y)).sup k else 0) = sumN (pbOf fits sup need).n fun k => if touches (pbOf fits sup need) D k = true then (pbOf fits sup need).sup k else 0 := sumN_congr fun k _ => by
    have : touches (pbOf fits sup (need.set i y)) D k = touches (pbOf fits sup need) D k := by
      unfold touches
      show ((List.range (need.set i y).length).any _) = _
      rw [List.length_set]
      rfl
    rw [this]
    rfl
  rw [h2]
  refine Int.sub_le_sub ?_ (Int.le_refl _)
  show (sumN (need.set i y).length fun b => if D b = true then (need.set i y).getD b 0 else 0) ≤ sumN need.length fun b => if D b = true then need.getD b 0 else 0
  rw [List.length_set]
  refine sumN_le fun b hb => ?_
  split
  · by_cases e : i = b
    · subst e
      rw [getD_set_self' hb, getD_of hi]; exact hxy
    · rw [getD_set_ne' e]; exact Int.le_refl _
  · exact Int.le_refl _
end Go.Proofs.Ytlifjajcmnkhfaa

/-
  Refusals, plain: the promises of layer 32.
  Conditions: none.
-/
namespace Go.Proofs.Ytlifjajcmnkhfaa
open Go Bf
/-- the fits, the amounts -/
theorem cutW_vld {w : Wd} {k : Bp} {r : Rq} (h : askE w k r = 0) : Vld (fitsT w k.known k.sups (k.reqs ++ [r])) (amS k.sups) (amR (k.reqs ++ [r])) := okT_vld (askE_zero h).2.2
noncomputable def cutRS (w : Wd) (k : Bp) (r : Rq) : Nat → Bool := cutFin (fitsT w k.known k.sups (k.reqs ++ [r])) (amS k.sups) (amR (k.reqs ++ [r]))
theorem amR_len (l : List Rq) : (amR l).length = l.length := by simp [amR]
theorem app_len (l : List Rq) (r : Rq) : (l ++ [r]).length = l.length + 1 := by simp
theorem cutS_last {w : Wd} {k : Bp} {r : Rq} (h : askE w k r = 0) (hn : ¬ Feas (pbW w k.known k.sups (k.reqs ++ [r]))) : cutRS w k r k.reqs.length = true := by
  obtain ⟨hok, hno, ht⟩ := askE_zero h
  cases hc : cutRS w k r k.reqs.length with
  | true => rfl
  | false =>
    refine absurd ?_ (cutFin_props (cutW_vld h) hn).1
    refine (feasW_keep ht _).1 ?_
    rw [keep_snoc, if_pos (by show (!cutRS w k r k.reqs.length) = true; rw [hc]; rfl), List.append_nil]
    have hf : Feas (pbW w k.known k.sups k.reqs) := by rw [← hok.pb]; exact hok.2.2.2
    exact feasW_sub (SubInj.sub keep_sub) hf
theorem conf_eq {w : Wd} {k : Bp} {r : Rq} : confF w k r = (keep (fun c => !cutRS w k r c) (k.reqs ++ [r]) 0).map (·.no) := by
  rw [keep_idxN]
  unfold confF cutB memF
  rw [List.map_map, amR_len]
  simp only [Bool.not_not]
  refine List.map_congr_left fun p hp => ?_
  simp [Function.comp]
/-- the promises that are kept -/
noncomputable def keptR (w : Wd) (k : Bp) (r : Rq) : List Rq := keep (fun c => !cutRS w k r c) k.reqs 0
theorem kept_all {w : Wd} {k : Bp} {r : Rq} (h : askE w k r = 0) (hn : ¬ Feas (pbW w k.known k.sups (k.reqs ++ [r]))) : keep (fun c => !cutRS w k r c) (k.reqs ++ [r]) 0 = keptR w k r ++ [r] := by
  rw [keep_snoc, if_neg (by rw [cutS_last h hn]; decide), keptR]
theorem le_eq {w : Wd} {k : Bp} {r : Rq} (h : askE w k r = 0) (hn : ¬ Feas (pbW w k.known k.sups (k.reqs ++ [r]))) : leF w k r = (keptR w k r).map (·.no) := by
  obtain ⟨hok, hno, ht⟩ := askE_zero h
  unfold leF
  rw [conf_eq, kept_all h hn, List.map_append, List.filter_append]
  have e1 : List.filter (fun n => decide (n ≠ r.no)) ([r].map (·.no)) = [] := by simp
  rw [e1, List.append_nil, List.filter_eq_self]
  intro n hm
  simp only [ne_eq, decide_eq_true_eq]
  rintro rfl
  exact hno ((List.Sublist.map (fun x : Rq => x.no) keep_sub).subset hm)
theorem req_eq {w : Wd} {k : Bp} {r : Rq} (h : askE w k r = 0) (hn : ¬ Feas (pbW w k.known k.sups (k.reqs ++ [r]))) : reqX (leF w k r) k.reqs = keptR w k r := by
  rw [le_eq h hn]
  exact pick_sub keep_sub (askE_zero h).1.1.1
theorem okT_subR {s : List Sp} {l l' : List Rq} (h : okT s l) (hs : l'.Sublist l) : okT s l' := okT_sub (SubInj.sub hs) (Nat.le_trans hs.length_le h.1.2) h
theorem kept_ok {w : Wd} {k : Bp} {r : Rq} (h : askE w k r = 0) (hn : ¬ Feas (pbW w k.known k.sups (k.reqs ++ [r]))) : okT k.sups (keptR w k r ++ [r]) := by
  rw [← kept_all h hn]
  exact okT_subR (askE_zero h).2.2 keep_sub
theorem kept_no {w : Wd} {k : Bp} {r : Rq} (h : askE w k r = 0) (hn : ¬ Feas (pbW w k.known k.sups (k.reqs ++ [r]))) : ¬ Feas (pbW w k.known k.sups (keptR w k r ++ [r])) := by
  rw [← kept_all h hn, feasW_keep (askE_zero h).2.2]
  exact (cutFin_props (cutW_vld h) hn).1
theorem kept_less {w : Wd} {k : Bp} {r : Rq} (h : askE w k r = 0) (hn : ¬ Feas (pbW w k.known k.sups (k.reqs ++ [r]))) {i : Nat} (hi : i < (keptR w k r ++ [r]).length) : Feas (pbW w k.known k.sups ((keptR w k r ++ [r]).eraseIdx i)) := by
  rw [← kept_all h hn] at hi ⊢
  obtain ⟨j, -, h2, h3, h4⟩ := keep_erase hi
  rw [← h4]
  have hj : j < (amR (k.reqs ++ [r])).length := by rw [amR_len]; omega
  have h5 := (cutFin_props (cutW_vld h) hn).2 j hj (by have h3' : (!cutRS w k r j) = false := h3; simpa [cutRS] using h3')
  have h6 := (feasW_keep (known := k.known) (w := w) (askE_zero h).2.2 fun c => cutRS w k r c && decide (c ≠ j)).2 h5
  have e : (fun c => !cutRS w k r c || decide (c = j)) = fun c => !(cutRS w k r c && decide (c ≠ j)) := by
    funext c
    by_cases e : c = j <;> simp [e]
  rw [e]
  exact h6
theorem le_chk {w : Wd} {k : Bp} {r : Rq} (h : askE w k r = 0) (hn : ¬ Feas (pbW w k.known k.sups (k.reqs ++ [r]))) : chkF w k r (leF w k r) := by
  obtain ⟨hok, hno, ht⟩ := askE_zero h
  refine ⟨idx (cutRS w k r) k.reqs.length, ?_, ?_⟩
  · rw [le_eq h hn, keptR, keep_idxN]
    simp only [Bool.not_not]
    exact posF_of hok.1.1 (List.Pairwise.filter _ List.pairwise_lt_range) fun p hp => ⟨Nat.zero_le _, by simpa using (List.mem_filter.1 hp).1⟩
  · have e : idx (cutRS w k r) k.reqs.length ++ [k.reqs.length] = idx (cutRS w k r) (amR (k.reqs ++ [r])).length := by
      rw [amR_len, app_len, idx_succ, if_pos (cutS_last h hn)]
    rw [e]
    exact cutFin_cut (cutW_vld h) hn
/-- what is accepted explains that the request is refused -/
theorem chk_no {w : Wd} {k : Bp} {r : Rq} {l : List Int} (h : askE w k r = 0) (hc : chkF w k r l) : ¬ Feas (pbW w k.known k.sups (k.reqs ++ [r])) := by
  obtain ⟨ps, -, hc⟩ := hc
  exact CutP.not_feas (cutW_vld h) hc
theorem setOf_nat {ps : List Nat} {p : Nat} : setOf (ps.map Int.ofNat) p = decide (p ∈ ps) := by
  rw [Bool.eq_iff_iff]
  simp only [setOf, decide_eq_true_eq, List.mem_map]
  constructor
  · rintro ⟨a, ha, e⟩
    have : a = p := by have : (a : Int) = (p : Int) := e; omega
    exact this ▸ ha
  · exact fun h => ⟨p, h, rfl⟩
theorem chk_kept {w : Wd} {k : Bp} {r : Rq} {l : List Int} (h : askE w k r = 0) (hc : chkF w k r l) : okT k.sups (reqX l k.reqs ++ [r]) ∧ ¬ Feas (pbW w k.known k.sups (reqX l k.reqs ++ [r])) := by
  obtain ⟨hok, hno, ht⟩ := askE_zero h
  obtain ⟨ps, hp, hc⟩ := hc
  obtain ⟨h1, h2, h3⟩ := posF_inv hp
  let S : Nat → Bool := fun b => decide (b ∈ ps ++ [k.reqs.length])
  have e1 : idx S k.reqs.length = ps := asc_idx h1 (fun p hp => (h2 p hp).2) S fun p hp => by
    simp only [S, decide_eq_true_eq, List.mem_append, List.mem_singleton]
    exact ⟨fun h => h.resolve_right (by omega), .inl⟩
  have e2 : l = (keep (fun c => !S c) k.reqs 0).map (·.no) := by
    rw [keep_idxN]
    simp only [Bool.not_not]
    rw [show (idx (fun i => S i) k.reqs.length) = ps from e1]
    exact h3
  have e3 : reqX l k.reqs = keep (fun c => !S c) k.reqs 0 := by
    rw [e2]
    exact pick_sub keep_sub hok.1.1
  have e4 : reqX l k.reqs ++ [r] = keep (fun c => !S c) (k.reqs ++ [r]) 0 := by
    rw [keep_snoc, if_neg (by simp [S]), e3]
  rw [e4]
  refine ⟨okT_subR ht keep_sub, ?_⟩
  rw [feasW_keep ht, feasS_iff (cutW_vld h)]
  intro hall
  have h5 := (cutP_iff (cutW_vld h) hc.1).1 hc
  have e5 : setOf ((ps ++ [k.reqs.length]).map Int.ofNat) = S := by
    funext p
    exact setOf_nat
  rw [e5] at h5
  have h6 := hall S
  rw [lackS_eq (fits := fitsT w k.known k.sups (k.reqs ++ [r])) S S fun _ _ h => h] at h6
  omega
/-- more of it -/
def moreR (r : Rq) (by_ : Int) : Rq := { r with amount := r.amount + by_ }
theorem fit_more (w : Wd) (known : Int) (s : List Sp) (l : List Rq) (r : Rq) (y : Int) : fitsT w known s (l ++ [moreR r y]) = fitsT w known s (l ++ [r]) := by
  unfold fitsT
  refine List.map_congr_left fun x _ => ?_
  rw [List.map_append, List.map_append]
  rfl
theorem amR_more (l : List Rq) (r : Rq) (y : Int) : amR (l ++ [r]) = (amR (l ++ [moreR r y])).set l.length r.amount := by
  unfold amR
  rw [List.map_append, List.map_append, List.set_append_right _ _ (by simp)]
  simp
theorem amR_at (l : List Rq) (r : Rq) : (amR (l ++ [r]))[l.length]? = some r.amount := by simp [amR]
theorem more_ask {w : Wd} {k : Bp} {r : Rq} {y : Int} (hy : 0 ≤ y) (hm : r.amount + y ≤ 1048576) (h : askE w k r = 0) : askE w k (moreR r y) = 0 := by
  obtain ⟨hok, hno, ht⟩ := askE_zero h
  have hr := (okT_app hok.2.1).1 ht
  have h1 := hr.1.2.2.2.2.2
  have hok2 : okRq (moreR r y) := ⟨hr.1.1, hr.1.2.1, hr.1.2.2.1, hr.1.2.2.2.1, hr.1.2.2.2.2.1, by simp only [moreR]; omega⟩
  unfold askE
  rw [if_neg (Classical.not_not.2 hok), if_neg (show ¬ (moreR r y).no ∈ _ from hno), if_neg]
  rw [not_or]
  exact ⟨Classical.not_not.2 hok2, by omega⟩
theorem more_no {w : Wd} {k : Bp} {r : Rq} {y : Int} (hy : 0 ≤ y) (h2 : askE w k (moreR r y) = 0) (hn : ¬ Feas (pbW w k.known k.sups (k.reqs ++ [r]))) (h0 : 0 ≤ r.amount) : ¬ Feas (pbW w k.known k.sups (k.reqs ++ [moreR r y])) := fun hf => by
  refine hn ?_
  have hv := cutW_vld h2
  have := (less_need hv (amR_at k.reqs (moreR r y)) (y := r.amount) (by simp only [moreR]; omega) h0 hf).2
  unfold pbW
  rw [amR_more k.reqs r y, ← fit_more w k.known k.sups k.reqs r y]
  exact this
theorem need_more (l : List Rq) (r : Rq) {y : Int} (hy : 0 ≤ y) (q : Nat) : (amR (l ++ [r])).getD q 0 ≤ (amR (l ++ [moreR r y])).getD q 0 := by
  rw [amR_more l r y, List.getD_eq_getElem?_getD, List.getD_eq_getElem?_getD, List.getElem?_set]
  split
  · rename_i e
    subst e
    rw [amR_at]
    split
    · simp [moreR]; omega
    · rename_i h; simp [amR] at h
  · exact Int.le_refl _
theorem more_chk {w : Wd} {k : Bp} {r : Rq} {y : Int} {l : List Int} (hy : 0 ≤ y) (hc : chkF w k r l) : chkF w k (moreR r y) l := by
  obtain ⟨ps, hp, hc⟩ := hc
  refine ⟨ps, hp, ?_⟩
  rw [fit_more]
  have hl : (amR (k.reqs ++ [moreR r y])).length = (amR (k.reqs ++ [r])).length := by rw [amR_len, amR_len, app_len, app_len]
  refine ⟨by rw [hl]; exact hc.1, Int.lt_of_lt_of_le hc.2 ?_⟩
  unfold cutNeed
  generalize (ps ++ [k.reqs.length]).map Int.ofNat = xs
  induction xs with
  | nil => exact Int.le_refl _
  | cons x xs ih =>
    have := need_more k.reqs r hy x.toNat
    rw [List.map_cons, List.map_cons, List.sum_cons, List.sum_cons]
    omega
end Go.Proofs.Ytlifjajcmnkhfaa

/-
  Refusals: the law RefusalsProved.
  Conditions: none.
-/
namespace Go.Proofs.Ytlifjajcmnkhfaa
open Go Bf
attribute [local irreducible] Tr Exec Stab HasTy Go.Addr.add IntKind.wrap
theorem zerosL_none (z l : List Value) : zerosL z 0 ++ l = l := rfl
set_option maxHeartbeats 8000000 in
set_option maxRecDepth 20000 in
theorem proved_fn (M : Mem) (ws : List Value) (w : Wd) (hw : RWd M ws w) (v : Value) (k : Bp) (hk : RBp M v k) (r : Rq) :
    Fn0 Try.prog 3 [.agg ws.toArray, v, .agg #[.int .i64 r.no, .int .i64 r.item, .int .i64 r.cust, .int .i64 r.due, .int .i64 r.shelf, .int .i64 r.amount]] M (fun v _ => v = .bool true) := by
  have h11 := hw.len
  obtain ⟨As, cs, Ar, cr, Af, cf, Ad, cd, rfl, h1, h2, h3, h4⟩ := id hk
  refine Fn.intro Try.func3 rfl rfl Try.ntmps3 rfl fun E F => ?_
  (repeat (first | ((with_reducible refine Tr.step rfl ?_); (first | (refine xaQ (z := ?_)) | ((with_reducible refine Knd.box ?_); (refine Exec.box rfl rfl (fun b => ?_))))) | (with_reducible first | apply Tr.next | apply Tr.seq | apply Tr.region | apply Tr.nil)))
  rename_i b3 b4
  generalize b = b5
  ((refine Tr.step rfl ?_)); refine Exec.call0 rfl (sane_fn M) rfl ?_
  rintro _ M1 hm1 rfl
  (repeat (first | ((with_reducible refine Tr.step rfl ?_); (first | ((with_reducible refine Knd.load ?_); (first | (refine xwQ (z := ?_)) | (refine Exec.stab rfl (Stab.loadW rfl (tysOk.get rfl) rfl (by repeat (first | exact Has.here | apply Has.there)) (by assumption)) rfl ?_))) | ((with_reducible refine Knd.unOp ?_); (refine Exec.stab rfl (Stab.not rfl) rfl ?_)))) | (with_reducible first | apply Tr.next | apply Tr.seq | apply Tr.region | apply Tr.nil | apply Tr.skip) | (refine Tr.cond_bf rfl (by first | (with_reducible rfl) | (with_reducible assumption) | (with_reducible exact Bool.not_true) | (with_reducible exact Bool.not_false)) ?_)))
  ((refine Tr.step rfl ?_)); refine Exec.call0 rfl (few32_fn M1 ws w (hw.mono hm1) _ k (hk.mono hm1)) rfl ?_
  rintro _ _ hm ⟨⟨q, rfl, hq⟩, rfl⟩
  cases q
  · (repeat (first | ((with_reducible refine Tr.step rfl ?_); (first | (refine xaQ (z := ?_)) | ((with_reducible refine Knd.unOp ?_); (refine Exec.stab rfl (Stab.not rfl) rfl ?_)))) | (with_reducible first | apply Tr.next | apply Tr.seq | apply Tr.region | apply Tr.nil | apply Tr.ret | apply Tr.then_ret) | (refine Tr.cond_bt rfl (by first | (with_reducible rfl) | (with_reducible assumption) | (with_reducible exact Bool.not_true) | (with_reducible exact Bool.not_false)) ?_)))
    (refine dnQ (hL := by exact ⟨[_, _, _], rfl⟩) (k := ⟨rfl, ?_⟩))
    rfl
  clear hq
  (repeat (first | ((with_reducible refine Tr.step rfl ?_); (first | ((with_reducible refine Knd.load ?_); (first | (refine xwQ (z := ?_)) | (refine Exec.stab rfl (Stab.loadW rfl (tysOk.get rfl) rfl (by repeat (first | exact Has.here | apply Has.there)) (by assumption)) rfl ?_))) | ((with_reducible refine Knd.unOp ?_); (refine Exec.stab rfl (Stab.not rfl) rfl ?_)))) | (with_reducible first | apply Tr.next | apply Tr.seq | apply Tr.region | apply Tr.nil | apply Tr.skip) | (refine Tr.cond_bf rfl (by first | (with_reducible rfl) | (with_reducible assumption) | (with_reducible exact Bool.not_true) | (with_reducible exact Bool.not_false)) ?_)))
  ((refine Tr.step rfl ?_)); refine Exec.call0 rfl (least_fn M1 ws w (hw.mono hm1) _ k (hk.mono hm1) r) rfl ?_
  rintro _ M2 hm2 hlv
  have hm02 := hm1.trans hm2
  obtain ⟨hne, rfl⟩ | ⟨-, -, -, rfl⟩ | ⟨hask, hok, hno, B, cB, rfl, hB⟩ := hlv
  · (repeat (first | ((with_reducible refine Tr.step rfl ?_); (first | (refine xmQ (z := ?_)) | (refine xaQ (z := ?_)) | (refine xnQ (z := ?_)) | (refine xiQ (z := ?_)) | ((with_reducible refine Knd.extract ?_); (refine Exec.stab rfl (Stab.extract rfl rfl) rfl ?_)))) | (with_reducible first | apply Tr.next | apply Tr.seq | apply Tr.region | apply Tr.nil | apply Tr.ret | apply Tr.then_ret) | (refine Tr.cond_t rfl (by first | (with_reducible assumption) | (with_reducible rfl) | (with_reducible exact (not_not_intro rfl)) | omega) ?_)))
    (refine dnQ (hL := by exact ⟨[_, _, _], rfl⟩) (k := ⟨rfl, ?_⟩))
    rfl
  · (repeat (first | ((with_reducible refine Tr.step rfl ?_); (first | (refine xmQ (z := ?_)) | (refine xaQ (z := ?_)) | (refine xnQ (z := ?_)) | (refine xiQ (z := ?_)) | ((with_reducible refine Knd.extract ?_); (refine Exec.stab rfl (Stab.extract rfl rfl) rfl ?_)))) | (with_reducible first | apply Tr.next | apply Tr.seq | apply Tr.region | apply Tr.nil | apply Tr.ret | apply Tr.then_ret) | (refine Tr.cond_t rfl (by first | (with_reducible assumption) | (with_reducible rfl) | (with_reducible exact (not_not_intro rfl)) | omega) ?_)))
    (refine dnQ (hL := by exact ⟨[_, _, _], rfl⟩) (k := ⟨rfl, ?_⟩))
    rfl
  have hchk := le_chk hask hno
  have hleL : (leF w k r).length ≤ 65 := by
    have e := congrArg List.length (le_eq hask hno)
    have h1 := (kept_ok hask hno).1.2
    rw [List.length_map] at e
    simp at h1
    omega
  have hlen : (keptR w k r).length = (leF w k r).length := by rw [le_eq hask hno, List.length_map]
  have l64 := hok.2.1.1.2
  have hokT := kept_ok hask hno
  have hnoT := kept_no hask hno
  have hless := fun (i : Nat) hi => kept_less hask hno (i := i) hi
  have hreq := req_eq hask hno
  have hle0 : 0 ≤ (leF w k r).length := Nat.zero_le _
  generalize leF w k r = lf at *
  generalize keptR w k r = kp at *
  (repeat (first | ((with_reducible refine Tr.step rfl ?_); (first | (refine xmQ (z := ?_)) | (refine xaQ (z := ?_)) | ((with_reducible refine Knd.load ?_); (first | (refine xwQ (z := ?_)) | (refine Exec.stab rfl (Stab.loadW rfl (tysOk.get rfl) rfl (by repeat (first | exact Has.here | apply Has.there)) (by assumption)) rfl ?_))) | (refine xiQ (z := ?_)) | ((with_reducible refine Knd.extract ?_); (refine Exec.stab rfl (Stab.extract rfl rfl) rfl ?_)))) | (with_reducible first | apply Tr.next | apply Tr.seq | apply Tr.region | apply Tr.nil | apply Tr.skip) | (refine Tr.cond_f rfl (by first | (with_reducible assumption) | (with_reducible rfl) | (with_reducible exact (not_not_intro rfl)) | omega) ?_)))
  ((refine Tr.step rfl ?_)); refine Exec.call0 rfl (rcheck_fn M2 ws w (hw.mono hm02) _ k (hk.mono hm02) r B cB lf hB (by omega)) rfl ?_
  rintro _ M3 hm3 hcv
  have hm03 := hm02.trans hm3
  obtain ⟨hne, -⟩ | ⟨-, -, q, rfl, hq⟩ := hcv
  · exact absurd hask hne
  obtain rfl := hq.2 hchk
  (repeat (first | ((with_reducible refine Tr.step rfl ?_); (first | (refine xmQ (z := ?_)) | (refine xaQ (z := ?_)) | (refine xwQ (z := ?_)) | (refine xiQ (z := ?_)) | ((with_reducible refine Knd.pick ?_); (refine Exec.stab rfl (Stab.pick_fd rfl (by first | (with_reducible assumption) | (with_reducible rfl) | (with_reducible exact (not_not_intro rfl)) | omega) rfl) rfl ?_)) | ((with_reducible refine Knd.extract ?_); (refine Exec.stab rfl (Stab.extract rfl rfl) rfl ?_)))) | (with_reducible first | apply Tr.next | apply Tr.seq | apply Tr.region | apply Tr.nil) | ((refine Tr.guard_y' rfl rfl rfl (by first | (with_reducible assumption) | (with_reducible rfl) | (with_reducible exact (not_not_intro rfl)) | omega) ?_); (first | (refine xmQ (z := ?_)) | ((with_reducible refine Knd.unOp ?_); (refine Exec.stab rfl (Stab.not rfl) rfl ?_)))) | (with_reducible refine Tr.skip ?_) | (refine Tr.cond_bf rfl (by first | (with_reducible rfl) | (with_reducible assumption) | (with_reducible exact Bool.not_true) | (with_reducible exact Bool.not_false)) ?_)))
  ((refine Tr.step rfl ?_)); refine Exec.call0 rfl (requests_fn M3 _ k (hk.mono hm03) B cB lf (hB.mono RI.mono hm3) (by omega) (by omega) r) rfl ?_
  rintro _ M4 hm4 ⟨B4, k4, rfl, hr4⟩
  have hm04 := hm03.trans hm4
  rw [hreq] at hr4 ⊢
  have hlen2 : (kp ++ [r]).length = lf.length + 1 := by simp [hlen]
  generalize kp ++ [r] = all at *
  (repeat (first | ((with_reducible refine Tr.step rfl ?_); (first | (refine xmQ (z := ?_)) | (refine xaQ (z := ?_)) | ((with_reducible refine Knd.load ?_); (first | (refine xlQ (z := ?_)) | (refine Exec.stab rfl (Stab.loadW rfl (tysOk.get rfl) rfl (by repeat (first | exact Has.here | apply Has.there)) (by assumption)) rfl ?_))) | (refine xfQ (z := ?_)) | (refine xnQ (z := ?_)) | ((with_reducible refine Knd.binOp ?_); (first | (refine xdQ (z := ?_)) | (refine xiQ (z := ?_)))))) | (with_reducible first | apply Tr.next | apply Tr.seq | apply Tr.region | apply Tr.nil | apply Tr.skip) | (refine Tr.cond_f rfl (by first | (with_reducible assumption) | (with_reducible rfl) | (with_reducible exact (not_not_intro rfl)) | omega) ?_)))
  ((refine Tr.step rfl ?_)); refine Exec.call0 rfl (meet_fn M4 ws w (hw.mono hm04) As B4 cs k4 k.sups all k.known (h1.mono RSpC.mono hm04) hr4 hokT) rfl ?_
  rintro _ M5 hm5 ⟨p, rfl, hp⟩
  have hm05 := hm04.trans hm5
  have hpf : p = false := by
    cases p
    · rfl
    · exact absurd (hp.1 rfl) hnoT
  subst hpf
  (repeat (first | ((with_reducible refine Tr.step rfl ?_); (first | (refine xmQ (z := ?_)) | (refine xaQ (z := ?_)) | (refine xnQ (z := ?_)) | ((with_reducible refine Knd.pick ?_); (refine Exec.stab rfl (Stab.pick_f rfl (by first | (with_reducible rfl) | (with_reducible assumption) | (with_reducible exact Bool.not_true) | (with_reducible exact Bool.not_false)) rfl) rfl ?_)) | ((with_reducible refine Knd.unOp ?_); (refine Exec.stab rfl (Stab.not rfl) rfl ?_)) | ((with_reducible refine Knd.extract ?_); (refine Exec.stab rfl (Stab.extract rfl rfl) rfl ?_)))) | (with_reducible first | apply Tr.next | apply Tr.seq | apply Tr.region | apply Tr.nil) | ((refine Tr.guard_l rfl rfl rfl (by first | (with_reducible rfl) | (with_reducible assumption) | (with_reducible exact Bool.not_true) | (with_reducible exact Bool.not_false)) ?_); (with_reducible refine Knd.move ?_); (refine xmQ (z := ?_))) | (with_reducible first | apply Tr.skip | apply Tr.block) | (refine Tr.cond_bf rfl (by first | (with_reducible rfl) | (with_reducible assumption) | (with_reducible exact Bool.not_true) | (with_reducible exact Bool.not_false)) ?_)))
  refine Tr.loop (α := Nat × Mem) (fun y => ⟨107, [(77, .int .i64 (y.1 : Int)), (76, .int .i64 (all.length : Int)), (11, .slice B4 all.length k4), (3, .pointer (some ⟨b3, 0, none⟩)), (4, .pointer (some ⟨b4, 0, none⟩)), (5, .pointer (some ⟨b5, 0, none⟩))], [], y.2, box b5 46 [.int .i64 r.no, .int .i64 r.item, .int .i64 r.cust, .int .i64 r.due, .int .i64 r.shelf, .int .i64 r.amount] :: box b4 44 [.int .i64 k.known, .slice As k.sups.length cs, .slice Ar k.reqs.length cr, .slice Af k.fits.length cf, .slice Ad k.rds.length cd] :: box b3 38 ws :: ([] ++ F)⟩)
    (fun y => y.1 ≤ all.length ∧ M5.le y.2) (fun y => all.length - y.1) (0, M5) ⟨Nat.zero_le _, Mem.le.refl _⟩ hsQ (fun y hy => ?_)
  obtain ⟨i, M6⟩ := y
  obtain ⟨hi, hm56⟩ := hy
  simp only at hi hm56
  dsimp only
  have hm06 := hm05.trans hm56
  have hr5 := hr4.mono RRqC.mono (hm5.trans hm56)
  have hcap := SlOf.cells hr5
  by_cases hlt : i < all.length
  · obtain ⟨cells, -, hc1, hc2, hc3, -, -⟩ := hcap
    have hp := SlOf.row (R := RRqC) (SlOf.pre hr5 (k := i) (m := k4) (by omega) (by omega) (Nat.le_refl _)) (fun _ _ h => h) rqC_len
    rw [List.length_take, Nat.min_eq_left hi] at hp
    have hs := SlOf.row (R := RRqC) (SlOf.sub hr5 (l := i + 1) (k := all.length) (m := k4) (by omega) (Nat.le_refl _) hc1 (Nat.le_refl _)) (fun _ _ h => h) rqC_len
    rw [List.take_of_length_le (by simp), List.length_drop] at hs
    have et : ((i : Int) + 1).toNat = i + 1 := by omega
    have hs : Row M6 (if k4 = ((i : Int) + 1).toNat then B4 else B4.map (·.add (((i : Int) + 1).toNat * 6))) (all.length - ((i : Int) + 1).toNat) 6 ((all.drop (i + 1)).flatMap rqC) := by rw [et]; exact hs
    have hel : (all.eraseIdx i).length = i + (all.length - ((i : Int) + 1).toNat) := by rw [List.length_eraseIdx_of_lt hlt, et]; omega
    (repeat (first | ((with_reducible refine Tr.step rfl ?_); (first | (refine xmQ (z := ?_)) | (refine xaQ (z := ?_)) | (refine xiQ (z := ?_)))) | (with_reducible first | apply Tr.next | apply Tr.seq | apply Tr.region | apply Tr.nil | apply Tr.skip | apply Tr.block) | (refine Tr.cond_t rfl (by first | (with_reducible assumption) | (with_reducible rfl) | (with_reducible exact (not_not_intro rfl)) | omega) ?_)))
    (((apply Tr.draw); (kernel_rfl)); (refine tkQ 1 (hB := by exact fun _ h => h) (s := by exact Stab.move rfl) (h := ?_)); (refine tkQ 2 (s := by exact Stab.move rfl) (h := ?_)); (refine tkQ 5 (s := by exact Stab.move rfl) (h := ?_)); (refine tkQ 6 (s := by exact Stab.move rfl) (h := ?_)); (refine tkQ 3 (s := by exact Stab.slice_h rfl rfl (tysOk.get rfl) rfl (tysOk.get rfl) (by omega) (by omega)) (h := ?_)); (refine tkQ 7 (s := by exact Stab.addi rfl rfl (by omega)) (h := ?_)); (refine tkQ 8 (s := by exact Stab.slice_l rfl rfl (tysOk.get rfl) rfl (tysOk.get rfl) rfl (by omega) (by omega)) (h := ?_)); (refine TrA.eff 0 rfl (by kernel_rfl) (by first | exact .inl rfl | exact .inr ⟨_, _, _, rfl, rfl, rfl⟩) ?_); (((refine Knd.buildSlice ?_); ((refine Exec.buildSlice (tysOk.get rfl) rfl (tysOk.get rfl) rfl rfl rfl rfl rfl (by repeat (exact BuildP.nil)) rfl (fun b => ?_))))); (refine ⟨(by first | exact Mem.le.refl _ | assumption), (by exact (Sub.mem (by repeat (first | exact Sub.refl | apply Sub.cons)))), ?_⟩))
    refine TrA.via (fun X h => Tr.box_own 6 0 (by repeat (first | exact Upd.here | apply Upd.there)) rfl (by intro u hu; cases hu) (by simp [maxLen]) h) ?_
    ((refine TrA.eff 4 rfl (by kernel_rfl) (by first | exact .inl rfl | exact .inr ⟨_, _, _, rfl, rfl, rfl⟩) ?_))
    refine Exec.append (news := (all.take i).flatMap rqC) rfl rfl (tysOk.get rfl) rfl (tysOk.get rfl) rfl rfl rfl rfl (by repeat (first | exact Del.here | apply Del.there)) (Src.row hp) (by rw [flatMap_len rqC_len]; simp; omega) (flatMap_one rqC_one _) (by omega) (by omega) rfl (fun A6 c6 hc6 => ?_)
    refine ⟨Mem.le.refl _, (by exact (Sub.mem (by repeat (first | exact Sub.refl | apply Sub.cons)))), ?_⟩
    rw [zerosL_none, Nat.zero_add]
    ((refine TrA.eff 9 rfl (by kernel_rfl) (by first | exact .inl rfl | exact .inr ⟨_, _, _, rfl, rfl, rfl⟩) ?_))
    refine Exec.append (news := (all.drop (i + 1)).flatMap rqC) rfl rfl (tysOk.get rfl) rfl (tysOk.get rfl) rfl rfl rfl rfl (by repeat (first | exact Del.here | apply Del.there)) (Src.row hs) (by rw [flatMap_len rqC_len, List.length_drop, et]) (flatMap_one rqC_one _) (by omega) (by omega) rfl (fun A7 c7 hc7 => ?_)
    refine ⟨Mem.le.refl _, (by exact (Sub.mem (by repeat (first | exact Sub.refl | apply Sub.cons)))), ?_⟩
    rw [← List.flatMap_append, ← List.eraseIdx_eq_take_drop_succ, Int.toNat_natCast, ← hel]
    ((refine tkQ 10 (s := by exact Stab.assign rfl) (h := ?_)); (refine TrA.done (by kernel_rfl) ?_))
    refine pbQ (r := ownS 46 6 _ _ _ _) (k := fun M8 hm8 hok8 => ?_)
    have hR8 : SlOf 6 RRqC M8 (.slice A7 (all.eraseIdx i).length c7) (all.eraseIdx i) := SlOf.ofOwn hok8 rfl hc7 (rqC_elems _ _)
    have hm08 := hm06.trans hm8
    have hok8 : okT k.sups (all.eraseIdx i) := okT_subR hokT (List.eraseIdx_sublist _ _)
    have hf8 := hless i hlt
    generalize all.eraseIdx i = less at *
    (repeat (first | ((with_reducible refine Tr.step rfl ?_); (first | (refine xmQ (z := ?_)) | ((with_reducible refine Knd.load ?_); (first | (refine xlQ (z := ?_)) | (refine Exec.stab rfl (Stab.loadW rfl (tysOk.get rfl) rfl (by repeat (first | exact Has.here | apply Has.there)) (by assumption)) rfl ?_))) | (refine xfQ (z := ?_)))) | (with_reducible first | apply Tr.next | apply Tr.seq | apply Tr.region)))
    ((refine Tr.step rfl ?_)); refine Exec.call0 rfl (meet_fn M8 ws w (hw.mono hm08) As A7 cs c7 k.sups less k.known (h1.mono RSpC.mono hm08) hR8 hok8) rfl ?_
    rintro _ M9 hm9 ⟨p, rfl, hp⟩
    obtain rfl := hp.2 hf8
    have hm09 := hm08.trans hm9
    (repeat (first | ((with_reducible refine Tr.step rfl ?_); (first | (refine xmQ (z := ?_)) | (refine xaQ (z := ?_)) | (refine xdQ (z := ?_)) | ((with_reducible refine Knd.pick ?_); (refine Exec.stab rfl (Stab.pick_f rfl (by first | (with_reducible rfl) | (with_reducible assumption) | (with_reducible exact Bool.not_true) | (with_reducible exact Bool.not_false)) rfl) rfl ?_)) | ((with_reducible refine Knd.unOp ?_); (refine Exec.stab rfl (Stab.not rfl) rfl ?_)) | ((with_reducible refine Knd.extract ?_); (refine Exec.stab rfl (Stab.extract rfl rfl) rfl ?_)))) | (with_reducible first | apply Tr.next | apply Tr.seq | apply Tr.region | apply Tr.nil) | ((refine Tr.guard_l rfl rfl rfl (by first | (with_reducible rfl) | (with_reducible assumption) | (with_reducible exact Bool.not_true) | (with_reducible exact Bool.not_false)) ?_); (first | (refine xmQ (z := ?_)) | ((with_reducible refine Knd.unOp ?_); (refine Exec.stab rfl (Stab.not rfl) rfl ?_)))) | (with_reducible first | apply Tr.skip | apply Tr.in_normal) | (refine Tr.cond_bf rfl (by first | (with_reducible rfl) | (with_reducible assumption) | (with_reducible exact Bool.not_true) | (with_reducible exact Bool.not_false)) ?_)))
    refine Tr.again (i + 1, M9) ⟨by simp only; omega, hm56.trans (hm8.trans hm9)⟩ (by simp only; omega) hsQ
  · have ei : i = all.length := by omega
    subst ei
    (repeat (first | ((with_reducible refine Tr.step rfl ?_); (first | (refine xaQ (z := ?_)) | (refine xiQ (z := ?_)))) | (with_reducible first | apply Tr.next | apply Tr.seq | apply Tr.region | apply Tr.nil | apply Tr.exit | apply Tr.ret | apply Tr.then_exit) | ((with_reducible refine Tr.in_exit ?_ ?_); (exact rfl)) | (refine Tr.cond_f rfl (by first | (with_reducible assumption) | (with_reducible rfl) | (with_reducible exact (not_not_intro rfl)) | omega) ?_)))
    (refine dnQ (hL := by exact ⟨[_, _, _], rfl⟩) (k := ⟨rfl, ?_⟩))
    rfl
end Go.Proofs.Ytlifjajcmnkhfaa

/-
  Worlds, books, requests: how the arguments of the laws read.
  Conditions: none.
-/
namespace Go.Proofs.Ytlifjajcmnkhfaa
open Go Bf
open Go.ChangeShapes Go.WideShapes Go.ChangeAt Go.RowKit
set_option maxRecDepth 100000
section
variable {H : Type} {enc : TypeId × Value → H} {W : World} {base : Nat} {v : Value} {w : World} {sp : Nat → Bool} {held : Bool}
theorem uINT : Try.prog.underlying 3 = some (.int .i64) := (tysOk.get (t := 3) rfl).1
theorem uB : Try.prog.underlying 4 = some (.bool) := (tysOk.get (t := 4) rfl).1
theorem uSTR : Try.prog.underlying 9 = some (.string) := (tysOk.get (t := 9) rfl).1
theorem uSW : Try.prog.underlying 29 = some (.slice 167) := (tysOk.get (t := 29) rfl).1
theorem uFA : Try.prog.underlying 36 = some (.slice 75) := (tysOk.get (t := 36) rfl).1
theorem uSPS : Try.prog.underlying 39 = some (.slice 77) := (tysOk.get (t := 39) rfl).1
theorem uRQS : Try.prog.underlying 40 = some (.slice 46) := (tysOk.get (t := 40) rfl).1
theorem uFT : Try.prog.underlying 41 = some (.slice 114) := (tysOk.get (t := 41) rfl).1
theorem uRDS : Try.prog.underlying 42 = some (.slice 117) := (tysOk.get (t := 42) rfl).1
theorem uROW : Try.prog.underlying 114 = some (.slice 4) := (tysOk.get (t := 114) rfl).1
theorem uLV : Try.prog.underlying 32 = some (.slice 3) := (tysOk.get (t := 32) rfl).1
theorem uS0 : ∃ e, Try.prog.underlying 22 = some (.slice e) := ⟨_, (tysOk.get (t := 22) rfl).1⟩
theorem uS1 : ∃ e, Try.prog.underlying 23 = some (.slice e) := ⟨_, (tysOk.get (t := 23) rfl).1⟩
theorem uS2 : ∃ e, Try.prog.underlying 24 = some (.slice e) := ⟨_, (tysOk.get (t := 24) rfl).1⟩
theorem uS3 : ∃ e, Try.prog.underlying 25 = some (.slice e) := ⟨_, (tysOk.get (t := 25) rfl).1⟩
theorem uS4 : ∃ e, Try.prog.underlying 26 = some (.slice e) := ⟨_, (tysOk.get (t := 26) rfl).1⟩
theorem uS5 : ∃ e, Try.prog.underlying 27 = some (.slice e) := ⟨_, (tysOk.get (t := 27) rfl).1⟩
theorem uS6 : ∃ e, Try.prog.underlying 28 = some (.slice e) := ⟨_, (tysOk.get (t := 28) rfl).1⟩
theorem uCD : ∃ e, Try.prog.underlying 33 = some (.slice e) := ⟨_, (tysOk.get (t := 33) rfl).1⟩
theorem cINT : Try.prog.cellsOf 3 = 1 := by kernel_rfl
theorem cB : Try.prog.cellsOf 4 = 1 := by kernel_rfl
theorem cSTR : Try.prog.cellsOf 9 = 1 := by kernel_rfl
theorem cSW : Try.prog.cellsOf 29 = 1 := by kernel_rfl
theorem cFA : Try.prog.cellsOf 36 = 1 := by kernel_rfl
theorem cSPS : Try.prog.cellsOf 39 = 1 := by kernel_rfl
theorem cRQS : Try.prog.cellsOf 40 = 1 := by kernel_rfl
theorem cFT : Try.prog.cellsOf 41 = 1 := by kernel_rfl
theorem cRDS : Try.prog.cellsOf 42 = 1 := by kernel_rfl
theorem cROW : Try.prog.cellsOf 114 = 1 := by kernel_rfl
theorem cLV : Try.prog.cellsOf 32 = 1 := by kernel_rfl
theorem cCD : Try.prog.cellsOf 33 = 1 := by kernel_rfl
theorem cS0 : Try.prog.cellsOf 22 = 1 := by kernel_rfl
theorem cS1 : Try.prog.cellsOf 23 = 1 := by kernel_rfl
theorem cS2 : Try.prog.cellsOf 24 = 1 := by kernel_rfl
theorem cS3 : Try.prog.cellsOf 25 = 1 := by kernel_rfl
theorem cS4 : Try.prog.cellsOf 26 = 1 := by kernel_rfl
theorem cS5 : Try.prog.cellsOf 27 = 1 := by kernel_rfl
theorem cS6 : Try.prog.cellsOf 28 = 1 := by kernel_rfl
theorem cW : Try.prog.cellsOf 38 = 11 := by kernel_rfl
theorem cTB : Try.prog.cellsOf 35 = 10 := by kernel_rfl
theorem cSRC : Try.prog.cellsOf 31 = 8 := by kernel_rfl
theorem cBK : Try.prog.cellsOf 44 = 5 := by kernel_rfl
theorem cRQ : Try.prog.cellsOf 46 = 6 := by kernel_rfl
theorem cSP : Try.prog.cellsOf 77 = 6 := by kernel_rfl
theorem cRD : Try.prog.cellsOf 117 = 5 := by kernel_rfl
theorem cFC : Try.prog.cellsOf 75 = 8 := by kernel_rfl
theorem cKEY : Try.prog.cellsOf 71 = 3 := by kernel_rfl
theorem cSPAN : Try.prog.cellsOf 73 = 2 := by kernel_rfl
theorem cSWE : Try.prog.cellsOf 167 = 4 := by kernel_rfl
theorem int_bounds {n : Int} (hw : (Lit.int .i64 n).wf = true) : -9223372036854775808 ≤ n ∧ n ≤ 9223372036854775807 := by
  have hmin : IntKind.i64.min = -9223372036854775808 := by decide
  have hmax : IntKind.i64.max = 9223372036854775807 := by decide
  simpa [Lit.wf, hmin, hmax] using hw
theorem one_slice {t e : TypeId} {fuel : Nat} {v : Value} {x : DataW H × List MemPlace} (hu : Try.prog.underlying t = some (.slice e)) (h : DataW.trod enc Try.prog w 0 sp held fuel t [v] = some x) : v.oneCell' = true := by
  rcases read_slice hu h with rfl | ⟨a, len, cap, f, rfl, -⟩ <;> rfl
theorem lenL2 {l : List Value} (h : l.length = 2) : ∃ a0 a1, l = [a0, a1] := by
  match l, h with
  | [a0, a1], _ => exact ⟨a0, a1, rfl⟩
theorem lenL3 {l : List Value} (h : l.length = 3) : ∃ a0 a1 a2, l = [a0, a1, a2] := by
  match l, h with
  | [a0, a1, a2], _ => exact ⟨a0, a1, a2, rfl⟩
theorem lenL4 {l : List Value} (h : l.length = 4) : ∃ a0 a1 a2 a3, l = [a0, a1, a2, a3] := by
  match l, h with
  | [a0, a1, a2, a3], _ => exact ⟨a0, a1, a2, a3, rfl⟩
theorem lenL5 {l : List Value} (h : l.length = 5) : ∃ a0 a1 a2 a3 a4, l = [a0, a1, a2, a3, a4] := by
  match l, h with
  | [a0, a1, a2, a3, a4], _ => exact ⟨a0, a1, a2, a3, a4, rfl⟩
theorem lenL6 {l : List Value} (h : l.length = 6) : ∃ a0 a1 a2 a3 a4 a5, l = [a0, a1, a2, a3, a4, a5] := by
  match l, h with
  | [a0, a1, a2, a3, a4, a5], _ => exact ⟨a0, a1, a2, a3, a4, a5, rfl⟩
theorem lenL8 {l : List Value} (h : l.length = 8) : ∃ a0 a1 a2 a3 a4 a5 a6 a7, l = [a0, a1, a2, a3, a4, a5, a6, a7] := by
  match l, h with
  | [a0, a1, a2, a3, a4, a5, a6, a7], _ => exact ⟨a0, a1, a2, a3, a4, a5, a6, a7, rfl⟩
theorem lenL11 {l : List Value} (h : l.length = 11) : ∃ a0 a1 a2 a3 a4 a5 a6 a7 a8 a9 a10, l = [a0, a1, a2, a3, a4, a5, a6, a7, a8, a9, a10] := by
  match l, h with
  | [a0, a1, a2, a3, a4, a5, a6, a7, a8, a9, a10], _ => exact ⟨a0, a1, a2, a3, a4, a5, a6, a7, a8, a9, a10, rfl⟩
theorem open_key {cs : List Value} {fuel : Nat} {x : DataW H × List MemPlace} (h : DataW.trod enc Try.prog w 0 sp held fuel 71 cs = some x) : ∃ z0 z1 z2 : Int, cs = [.int .i64 z0, .int .i64 z1, .int .i64 z2] ∧ -9223372036854775808 ≤ z2 ∧ z2 ≤ 9223372036854775807 := by
  obtain ⟨hl, g, hg⟩ := read_struct Try.underlying71 h
  rw [cKEY] at hl
  obtain ⟨a0, a1, a2, rfl⟩ := lenL3 hl
  obtain ⟨y0, h0⟩ : ∃ y, DataW.trod enc Try.prog w 0 sp held g 3 (([a0, a1, a2].drop 0).take (Try.prog.cellsOf 3)) = some y := hg 0 _ rfl
  rw [cINT] at h0
  obtain ⟨y1, h1⟩ : ∃ y, DataW.trod enc Try.prog w 0 sp held g 3 (([a0, a1, a2].drop 1).take (Try.prog.cellsOf 3)) = some y := hg 1 _ rfl
  rw [cINT] at h1
  obtain ⟨y2, h2⟩ : ∃ y, DataW.trod enc Try.prog w 0 sp held g 3 (([a0, a1, a2].drop 2).take (Try.prog.cellsOf 3)) = some y := hg 2 _ rfl
  rw [cINT] at h2
  obtain ⟨n0, e0, b0⟩ := read_int uINT h0
  obtain ⟨n1, e1, b1⟩ := read_int uINT h1
  obtain ⟨n2, e2, b2⟩ := read_int uINT h2
  cases e0
  cases e1
  cases e2
  exact ⟨_, _, _, rfl, int_bounds b2⟩
theorem open_span {cs : List Value} {fuel : Nat} {x : DataW H × List MemPlace} (h : DataW.trod enc Try.prog w 0 sp held fuel 73 cs = some x) : ∃ z0 z1 : Int, cs = [.int .i64 z0, .int .i64 z1] ∧ -9223372036854775808 ≤ z1 ∧ z1 ≤ 9223372036854775807 := by
  obtain ⟨hl, g, hg⟩ := read_struct Try.underlying73 h
  rw [cSPAN] at hl
  obtain ⟨a0, a1, rfl⟩ := lenL2 hl
  obtain ⟨y0, h0⟩ : ∃ y, DataW.trod enc Try.prog w 0 sp held g 3 (([a0, a1].drop 0).take (Try.prog.cellsOf 3)) = some y := hg 0 _ rfl
  rw [cINT] at h0
  obtain ⟨y1, h1⟩ : ∃ y, DataW.trod enc Try.prog w 0 sp held g 3 (([a0, a1].drop 1).take (Try.prog.cellsOf 3)) = some y := hg 1 _ rfl
  rw [cINT] at h1
  obtain ⟨n0, e0, b0⟩ := read_int uINT h0
  obtain ⟨n1, e1, b1⟩ := read_int uINT h1
  cases e0
  cases e1
  exact ⟨_, _, rfl, int_bounds b1⟩
theorem open_rq {cs : List Value} {fuel : Nat} {x : DataW H × List MemPlace} (h : DataW.trod enc Try.prog w 0 sp held fuel 46 cs = some x) : ∃ z0 z1 z2 z3 z4 z5 : Int, cs = [.int .i64 z0, .int .i64 z1, .int .i64 z2, .int .i64 z3, .int .i64 z4, .int .i64 z5] ∧ -9223372036854775808 ≤ z5 ∧ z5 ≤ 9223372036854775807 := by
  obtain ⟨hl, g, hg⟩ := read_struct Try.underlying46 h
  rw [cRQ] at hl
  obtain ⟨a0, a1, a2, a3, a4, a5, rfl⟩ := lenL6 hl
  obtain ⟨y0, h0⟩ : ∃ y, DataW.trod enc Try.prog w 0 sp held g 3 (([a0, a1, a2, a3, a4, a5].drop 0).take (Try.prog.cellsOf 3)) = some y := hg 0 _ rfl
  rw [cINT] at h0
  obtain ⟨y1, h1⟩ : ∃ y, DataW.trod enc Try.prog w 0 sp held g 3 (([a0, a1, a2, a3, a4, a5].drop 1).take (Try.prog.cellsOf 3)) = some y := hg 1 _ rfl
  rw [cINT] at h1
  obtain ⟨y2, h2⟩ : ∃ y, DataW.trod enc Try.prog w 0 sp held g 3 (([a0, a1, a2, a3, a4, a5].drop 2).take (Try.prog.cellsOf 3)) = some y := hg 2 _ rfl
  rw [cINT] at h2
  obtain ⟨y3, h3⟩ : ∃ y, DataW.trod enc Try.prog w 0 sp held g 3 (([a0, a1, a2, a3, a4, a5].drop 3).take (Try.prog.cellsOf 3)) = some y := hg 3 _ rfl
  rw [cINT] at h3
  obtain ⟨y4, h4⟩ : ∃ y, DataW.trod enc Try.prog w 0 sp held g 3 (([a0, a1, a2, a3, a4, a5].drop 4).take (Try.prog.cellsOf 3)) = some y := hg 4 _ rfl
  rw [cINT] at h4
  obtain ⟨y5, h5⟩ : ∃ y, DataW.trod enc Try.prog w 0 sp held g 3 (([a0, a1, a2, a3, a4, a5].drop 5).take (Try.prog.cellsOf 3)) = some y := hg 5 _ rfl
  rw [cINT] at h5
  obtain ⟨n0, e0, b0⟩ := read_int uINT h0
  obtain ⟨n1, e1, b1⟩ := read_int uINT h1
  obtain ⟨n2, e2, b2⟩ := read_int uINT h2
  obtain ⟨n3, e3, b3⟩ := read_int uINT h3
  obtain ⟨n4, e4, b4⟩ := read_int uINT h4
  obtain ⟨n5, e5, b5⟩ := read_int uINT h5
  cases e0
  cases e1
  cases e2
  cases e3
  cases e4
  cases e5
  exact ⟨_, _, _, _, _, _, rfl, int_bounds b5⟩
theorem open_sp {cs : List Value} {fuel : Nat} {x : DataW H × List MemPlace} (h : DataW.trod enc Try.prog w 0 sp held fuel 77 cs = some x) : ∃ z0 z1 z2 z3 z4 z5 : Int, cs = [.int .i64 z0, .int .i64 z1, .int .i64 z2, .int .i64 z3, .int .i64 z4, .int .i64 z5] ∧ -9223372036854775808 ≤ z5 ∧ z5 ≤ 9223372036854775807 := by
  obtain ⟨hl, g, hg⟩ := read_struct Try.underlying77 h
  rw [cSP] at hl
  obtain ⟨a0, a1, a2, a3, a4, a5, rfl⟩ := lenL6 hl
  obtain ⟨y0, h0⟩ : ∃ y, DataW.trod enc Try.prog w 0 sp held g 3 (([a0, a1, a2, a3, a4, a5].drop 0).take (Try.prog.cellsOf 3)) = some y := hg 0 _ rfl
  rw [cINT] at h0
  obtain ⟨y1, h1⟩ : ∃ y, DataW.trod enc Try.prog w 0 sp held g 3 (([a0, a1, a2, a3, a4, a5].drop 1).take (Try.prog.cellsOf 3)) = some y := hg 1 _ rfl
  rw [cINT] at h1
  obtain ⟨y2, h2⟩ : ∃ y, DataW.trod enc Try.prog w 0 sp held g 3 (([a0, a1, a2, a3, a4, a5].drop 2).take (Try.prog.cellsOf 3)) = some y := hg 2 _ rfl
  rw [cINT] at h2
  obtain ⟨y3, h3⟩ : ∃ y, DataW.trod enc Try.prog w 0 sp held g 3 (([a0, a1, a2, a3, a4, a5].drop 3).take (Try.prog.cellsOf 3)) = some y := hg 3 _ rfl
  rw [cINT] at h3
  obtain ⟨y4, h4⟩ : ∃ y, DataW.trod enc Try.prog w 0 sp held g 3 (([a0, a1, a2, a3, a4, a5].drop 4).take (Try.prog.cellsOf 3)) = some y := hg 4 _ rfl
  rw [cINT] at h4
  obtain ⟨y5, h5⟩ : ∃ y, DataW.trod enc Try.prog w 0 sp held g 3 (([a0, a1, a2, a3, a4, a5].drop 5).take (Try.prog.cellsOf 3)) = some y := hg 5 _ rfl
  rw [cINT] at h5
  obtain ⟨n0, e0, b0⟩ := read_int uINT h0
  obtain ⟨n1, e1, b1⟩ := read_int uINT h1
  obtain ⟨n2, e2, b2⟩ := read_int uINT h2
  obtain ⟨n3, e3, b3⟩ := read_int uINT h3
  obtain ⟨n4, e4, b4⟩ := read_int uINT h4
  obtain ⟨n5, e5, b5⟩ := read_int uINT h5
  cases e0
  cases e1
  cases e2
  cases e3
  cases e4
  cases e5
  exact ⟨_, _, _, _, _, _, rfl, int_bounds b5⟩
theorem open_rd {cs : List Value} {fuel : Nat} {x : DataW H × List MemPlace} (h : DataW.trod enc Try.prog w 0 sp held fuel 117 cs = some x) : ∃ z0 z1 z2 z3 z4 : Int, cs = [.int .i64 z0, .int .i64 z1, .int .i64 z2, .int .i64 z3, .int .i64 z4] ∧ -9223372036854775808 ≤ z4 ∧ z4 ≤ 9223372036854775807 := by
  obtain ⟨hl, g, hg⟩ := read_struct Try.underlying117 h
  rw [cRD] at hl
  obtain ⟨a0, a1, a2, a3, a4, rfl⟩ := lenL5 hl
  obtain ⟨y0, h0⟩ : ∃ y, DataW.trod enc Try.prog w 0 sp held g 71 (([a0, a1, a2, a3, a4].drop 0).take (Try.prog.cellsOf 71)) = some y := hg 0 _ rfl
  rw [cKEY] at h0
  obtain ⟨y1, h1⟩ : ∃ y, DataW.trod enc Try.prog w 0 sp held g 3 (([a0, a1, a2, a3, a4].drop 3).take (Try.prog.cellsOf 3)) = some y := hg 1 _ rfl
  rw [cINT] at h1
  obtain ⟨y2, h2⟩ : ∃ y, DataW.trod enc Try.prog w 0 sp held g 3 (([a0, a1, a2, a3, a4].drop 4).take (Try.prog.cellsOf 3)) = some y := hg 2 _ rfl
  rw [cINT] at h2
  obtain ⟨n0, n1, n2, e0, b0⟩ := open_key h0
  obtain ⟨n3, e1, b1⟩ := read_int uINT h1
  obtain ⟨n4, e2, b2⟩ := read_int uINT h2
  cases e0
  cases e1
  cases e2
  exact ⟨_, _, _, _, _, rfl, int_bounds b2⟩
theorem open_fc {cs : List Value} {fuel : Nat} {x : DataW H × List MemPlace} (h : DataW.trod enc Try.prog w 0 sp held fuel 75 cs = some x) : ∃ z0 z1 z2 z3 z4 z5 z6 z7 : Int, cs = [.int .i64 z0, .int .i64 z1, .int .i64 z2, .int .i64 z3, .int .i64 z4, .int .i64 z5, .int .i64 z6, .int .i64 z7] ∧ -9223372036854775808 ≤ z7 ∧ z7 ≤ 9223372036854775807 := by
  obtain ⟨hl, g, hg⟩ := read_struct Try.underlying75 h
  rw [cFC] at hl
  obtain ⟨a0, a1, a2, a3, a4, a5, a6, a7, rfl⟩ := lenL8 hl
  obtain ⟨y0, h0⟩ : ∃ y, DataW.trod enc Try.prog w 0 sp held g 71 (([a0, a1, a2, a3, a4, a5, a6, a7].drop 0).take (Try.prog.cellsOf 71)) = some y := hg 0 _ rfl
  rw [cKEY] at h0
  obtain ⟨y1, h1⟩ : ∃ y, DataW.trod enc Try.prog w 0 sp held g 3 (([a0, a1, a2, a3, a4, a5, a6, a7].drop 3).take (Try.prog.cellsOf 3)) = some y := hg 1 _ rfl
  rw [cINT] at h1
  obtain ⟨y2, h2⟩ : ∃ y, DataW.trod enc Try.prog w 0 sp held g 73 (([a0, a1, a2, a3, a4, a5, a6, a7].drop 4).take (Try.prog.cellsOf 73)) = some y := hg 2 _ rfl
  rw [cSPAN] at h2
  obtain ⟨y3, h3⟩ : ∃ y, DataW.trod enc Try.prog w 0 sp held g 3 (([a0, a1, a2, a3, a4, a5, a6, a7].drop 6).take (Try.prog.cellsOf 3)) = some y := hg 3 _ rfl
  rw [cINT] at h3
  obtain ⟨y4, h4⟩ : ∃ y, DataW.trod enc Try.prog w 0 sp held g 3 (([a0, a1, a2, a3, a4, a5, a6, a7].drop 7).take (Try.prog.cellsOf 3)) = some y := hg 4 _ rfl
  rw [cINT] at h4
  obtain ⟨n0, n1, n2, e0, b0⟩ := open_key h0
  obtain ⟨n3, e1, b1⟩ := read_int uINT h1
  obtain ⟨n4, n5, e2, b2⟩ := open_span h2
  obtain ⟨n6, e3, b3⟩ := read_int uINT h3
  obtain ⟨n7, e4, b4⟩ := read_int uINT h4
  cases e0
  cases e1
  cases e2
  cases e3
  cases e4
  exact ⟨_, _, _, _, _, _, _, _, rfl, int_bounds b4⟩
theorem open_sw {cs : List Value} {fuel : Nat} {x : DataW H × List MemPlace} (h : DataW.trod enc Try.prog w 0 sp held fuel 167 cs = some x) : ∃ (s1 s2 : ByteArray) (a b : Int), cs = [.string s1, .string s2, .int .i64 a, .int .i64 b] := by
  obtain ⟨hl, g, hg⟩ := read_struct Try.underlying167 h
  rw [cSWE] at hl
  obtain ⟨a0, a1, a2, a3, rfl⟩ := lenL4 hl
  obtain ⟨y0, h0⟩ : ∃ y, DataW.trod enc Try.prog w 0 sp held g 9 (([a0, a1, a2, a3].drop 0).take (Try.prog.cellsOf 9)) = some y := hg 0 _ rfl
  rw [cSTR] at h0
  obtain ⟨y1, h1⟩ : ∃ y, DataW.trod enc Try.prog w 0 sp held g 9 (([a0, a1, a2, a3].drop 1).take (Try.prog.cellsOf 9)) = some y := hg 1 _ rfl
  rw [cSTR] at h1
  obtain ⟨y2, h2⟩ : ∃ y, DataW.trod enc Try.prog w 0 sp held g 3 (([a0, a1, a2, a3].drop 2).take (Try.prog.cellsOf 3)) = some y := hg 2 _ rfl
  rw [cINT] at h2
  obtain ⟨y3, h3⟩ : ∃ y, DataW.trod enc Try.prog w 0 sp held g 3 (([a0, a1, a2, a3].drop 3).take (Try.prog.cellsOf 3)) = some y := hg 3 _ rfl
  rw [cINT] at h3
  obtain ⟨s1, e0, -⟩ := read_string uSTR h0
  obtain ⟨s2, e1, -⟩ := read_string uSTR h1
  obtain ⟨n2, e2, -⟩ := read_int uINT h2
  obtain ⟨n3, e3, -⟩ := read_int uINT h3
  cases e0; cases e1; cases e2; cases e3
  exact ⟨_, _, _, _, rfl⟩
theorem open_world {cs : List Value} {fuel : Nat} {x : DataW H × List MemPlace} (h : DataW.trod enc Try.prog w 0 sp held fuel 38 cs = some x) : ∃ d : Wd, RWd (Bf.hp w) cs d := by
  obtain ⟨hl, g, hg⟩ := read_struct Try.underlying38 h
  rw [cW] at hl
  obtain ⟨a0, a1, a2, a3, a4, a5, a6, a7, a8, a9, a10, rfl⟩ := lenL11 hl
  obtain ⟨y0, h0⟩ : ∃ y, DataW.trod enc Try.prog w 0 sp held g 35 (([a0, a1, a2, a3, a4, a5, a6, a7, a8, a9, a10].drop 0).take (Try.prog.cellsOf 35)) = some y := hg 0 _ rfl
  rw [cTB] at h0
  obtain ⟨y1, h1⟩ : ∃ y, DataW.trod enc Try.prog w 0 sp held g 36 (([a0, a1, a2, a3, a4, a5, a6, a7, a8, a9, a10].drop 10).take (Try.prog.cellsOf 36)) = some y := hg 1 _ rfl
  rw [cFA] at h1
  have h0 : DataW.trod enc Try.prog w 0 sp held g 35 [a0, a1, a2, a3, a4, a5, a6, a7, a8, a9] = some y0 := h0
  obtain ⟨-, g2, hg2⟩ := read_struct Try.underlying35 h0
  obtain ⟨z0, k0⟩ : ∃ y, DataW.trod enc Try.prog w 0 sp held g2 31 (([a0, a1, a2, a3, a4, a5, a6, a7, a8, a9].drop 0).take (Try.prog.cellsOf 31)) = some y := hg2 0 _ rfl
  rw [cSRC] at k0
  obtain ⟨z1, k1⟩ : ∃ y, DataW.trod enc Try.prog w 0 sp held g2 32 (([a0, a1, a2, a3, a4, a5, a6, a7, a8, a9].drop 8).take (Try.prog.cellsOf 32)) = some y := hg2 1 _ rfl
  rw [cLV] at k1
  obtain ⟨z2, k2⟩ : ∃ y, DataW.trod enc Try.prog w 0 sp held g2 33 (([a0, a1, a2, a3, a4, a5, a6, a7, a8, a9].drop 9).take (Try.prog.cellsOf 33)) = some y := hg2 2 _ rfl
  rw [cCD] at k2
  have k0 : DataW.trod enc Try.prog w 0 sp held g2 31 [a0, a1, a2, a3, a4, a5, a6, a7] = some z0 := k0
  obtain ⟨-, g3, hg3⟩ := read_struct Try.underlying31 k0
  obtain ⟨x0, m0⟩ : ∃ y, DataW.trod enc Try.prog w 0 sp held g3 22 (([a0, a1, a2, a3, a4, a5, a6, a7].drop 0).take (Try.prog.cellsOf 22)) = some y := hg3 0 _ rfl
  rw [cS0] at m0
  obtain ⟨x1, m1⟩ : ∃ y, DataW.trod enc Try.prog w 0 sp held g3 23 (([a0, a1, a2, a3, a4, a5, a6, a7].drop 1).take (Try.prog.cellsOf 23)) = some y := hg3 1 _ rfl
  rw [cS1] at m1
  obtain ⟨x2, m2⟩ : ∃ y, DataW.trod enc Try.prog w 0 sp held g3 24 (([a0, a1, a2, a3, a4, a5, a6, a7].drop 2).take (Try.prog.cellsOf 24)) = some y := hg3 2 _ rfl
  rw [cS2] at m2
  obtain ⟨x3, m3⟩ : ∃ y, DataW.trod enc Try.prog w 0 sp held g3 25 (([a0, a1, a2, a3, a4, a5, a6, a7].drop 3).take (Try.prog.cellsOf 25)) = some y := hg3 3 _ rfl
  rw [cS3] at m3
  obtain ⟨x4, m4⟩ : ∃ y, DataW.trod enc Try.prog w 0 sp held g3 26 (([a0, a1, a2, a3, a4, a5, a6, a7].drop 4).take (Try.prog.cellsOf 26)) = some y := hg3 4 _ rfl
  rw [cS4] at m4
  obtain ⟨x5, m5⟩ : ∃ y, DataW.trod enc Try.prog w 0 sp held g3 27 (([a0, a1, a2, a3, a4, a5, a6, a7].drop 5).take (Try.prog.cellsOf 27)) = some y := hg3 5 _ rfl
  rw [cS5] at m5
  obtain ⟨x6, m6⟩ : ∃ y, DataW.trod enc Try.prog w 0 sp held g3 28 (([a0, a1, a2, a3, a4, a5, a6, a7].drop 6).take (Try.prog.cellsOf 28)) = some y := hg3 6 _ rfl
  rw [cS6] at m6
  obtain ⟨x7, m7⟩ : ∃ y, DataW.trod enc Try.prog w 0 sp held g3 29 (([a0, a1, a2, a3, a4, a5, a6, a7].drop 7).take (Try.prog.cellsOf 29)) = some y := hg3 7 _ rfl
  rw [cSW] at m7
  obtain ⟨e0, he0⟩ := uS0
  have o0 := one_slice he0 m0
  obtain ⟨e1, he1⟩ := uS1
  have o1 := one_slice he1 m1
  obtain ⟨e2, he2⟩ := uS2
  have o2 := one_slice he2 m2
  obtain ⟨e3, he3⟩ := uS3
  have o3 := one_slice he3 m3
  obtain ⟨e4, he4⟩ := uS4
  have o4 := one_slice he4 m4
  obtain ⟨e5, he5⟩ := uS5
  have o5 := one_slice he5 m5
  obtain ⟨e6, he6⟩ := uS6
  have o6 := one_slice he6 m6
  have o8 := one_slice uLV k1
  obtain ⟨e9, he9⟩ := uCD
  have o9 := one_slice he9 k2
  obtain ⟨swaps, A, c, rfl, hs⟩ := read_slOf (R := RSw) uSW cSWE (by omega) (fun f cs y hl hy => by
    obtain ⟨s1, s2, p, q, rfl⟩ := open_sw hy
    exact ⟨by intro u hu; simp at hu; rcases hu with rfl | rfl | rfl | rfl <;> rfl, (p, q), s1, s2, rfl⟩) m7
  obtain ⟨facts, B, d, rfl, hf⟩ := read_slOf (R := RFc) uFA cFC (by omega) (fun f cs y hl hy => by
    obtain ⟨z0, z1, z2, z3, z4, z5, z6, z7, rfl, -⟩ := open_fc hy
    exact ⟨by intro u hu; simp at hu; rcases hu with rfl | rfl | rfl | rfl | rfl | rfl | rfl | rfl <;> rfl, ⟨(z0, z1, z2), z3, z4, z5, z6, z7⟩, rfl⟩) h1
  refine ⟨⟨swaps, facts⟩, rfl, ?_, ⟨A, c, rfl, hs⟩, ⟨B, d, rfl, hf⟩⟩
  repeat (first | exact AllOne.nil | refine AllOne.cons (by first | assumption | rfl) ?_)
theorem open_book {cs : List Value} {fuel : Nat} {x : DataW H × List MemPlace} (h : DataW.trod enc Try.prog w 0 sp held fuel 44 cs = some x) : ∃ k : Bp, RBp (Bf.hp w) (.agg cs.toArray) k := by
  obtain ⟨hl, g, hg⟩ := read_struct Try.underlying44 h
  rw [cBK] at hl
  obtain ⟨a0, a1, a2, a3, a4, rfl⟩ := lenL5 hl
  obtain ⟨y0, h0⟩ : ∃ y, DataW.trod enc Try.prog w 0 sp held g 3 (([a0, a1, a2, a3, a4].drop 0).take (Try.prog.cellsOf 3)) = some y := hg 0 _ rfl
  rw [cINT] at h0
  obtain ⟨y1, h1⟩ : ∃ y, DataW.trod enc Try.prog w 0 sp held g 39 (([a0, a1, a2, a3, a4].drop 1).take (Try.prog.cellsOf 39)) = some y := hg 1 _ rfl
  rw [cSPS] at h1
  obtain ⟨y2, h2⟩ : ∃ y, DataW.trod enc Try.prog w 0 sp held g 40 (([a0, a1, a2, a3, a4].drop 2).take (Try.prog.cellsOf 40)) = some y := hg 2 _ rfl
  rw [cRQS] at h2
  obtain ⟨y3, h3⟩ : ∃ y, DataW.trod enc Try.prog w 0 sp held g 41 (([a0, a1, a2, a3, a4].drop 3).take (Try.prog.cellsOf 41)) = some y := hg 3 _ rfl
  rw [cFT] at h3
  obtain ⟨y4, h4⟩ : ∃ y, DataW.trod enc Try.prog w 0 sp held g 42 (([a0, a1, a2, a3, a4].drop 4).take (Try.prog.cellsOf 42)) = some y := hg 4 _ rfl
  rw [cRDS] at h4
  obtain ⟨n0, e0, -⟩ := read_int uINT h0
  cases e0
  obtain ⟨sups, As, ca, rfl, hs⟩ := read_slOf (R := RSpC) uSPS cSP (by omega) (fun f cs y hl hy => by
    obtain ⟨z0, z1, z2, z3, z4, z5, rfl, -⟩ := open_sp hy
    exact ⟨by intro u hu; simp at hu; rcases hu with rfl | rfl | rfl | rfl | rfl | rfl <;> rfl, ⟨z0, z1, z2, z3, z4, z5⟩, rfl⟩) h1
  obtain ⟨reqs, Ar, cr, rfl, hr⟩ := read_slOf (R := RRqC) uRQS cRQ (by omega) (fun f cs y hl hy => by
    obtain ⟨z0, z1, z2, z3, z4, z5, rfl, -⟩ := open_rq hy
    exact ⟨by intro u hu; simp at hu; rcases hu with rfl | rfl | rfl | rfl | rfl | rfl <;> rfl, ⟨z0, z1, z2, z3, z4, z5⟩, rfl⟩) h2
  obtain ⟨fits, Af, cf, rfl, hf⟩ := read_slOf (R := RRowB) uFT cROW (by omega) (fun f cs y hl hy => by
    obtain ⟨a, rfl⟩ := List.length_eq_one_iff.1 hl
    obtain ⟨l, A, c, rfl, hs⟩ := read_slOf (R := RBo) uROW cB (by omega) (fun f cs y hl hy => by
      obtain ⟨b, rfl⟩ := read_bool uB hy
      exact ⟨by intro u hu; simp at hu; subst hu; rfl, b, rfl⟩) hy
    exact ⟨by intro u hu; simp at hu; subst hu; rfl, l, A, c, rfl, hs⟩) h3
  obtain ⟨rds, Ad, cd, rfl, hd⟩ := read_slOf (R := RRd) uRDS cRD (by omega) (fun f cs y hl hy => by
    obtain ⟨z0, z1, z2, z3, z4, rfl, -⟩ := open_rd hy
    exact ⟨by intro u hu; simp at hu; rcases hu with rfl | rfl | rfl | rfl | rfl <;> rfl, ((z0, z1, z2), z3, z4), rfl⟩) h4
  exact ⟨⟨n0, sups, reqs, fits, rds⟩, As, ca, Ar, cr, Af, cf, Ad, cd, rfl, hs, hr, hf, hd⟩
theorem arg_world (h : Arg enc Try.prog W base 38 v) : ∃ ws d, v = .agg ws.toArray ∧ RWd (Bf.hp W) ws d := by
  obtain ⟨k0, f0, x, g0⟩ := h
  unfold Value.okWide at k0
  rw [Try.underlying38] at k0
  obtain ⟨cs, rfl, -, -⟩ := k0
  obtain ⟨d, hd⟩ := open_world (cs := cs.toList) (by simpa [Value.cells] using g0)
  exact ⟨cs.toList, d, by simp, hd⟩
theorem arg_book (h : Arg enc Try.prog W base 44 v) : ∃ k, RBp (Bf.hp W) v k := by
  obtain ⟨k0, f0, x, g0⟩ := h
  unfold Value.okWide at k0
  rw [Try.underlying44] at k0
  obtain ⟨cs, rfl, -, -⟩ := k0
  obtain ⟨dk, hdk⟩ := open_book g0
  exact ⟨dk, by simpa [Value.cells] using hdk⟩
theorem arg_req (h : Arg enc Try.prog W base 46 v) : ∃ r : Rq, v = .agg #[.int .i64 r.no, .int .i64 r.item, .int .i64 r.cust, .int .i64 r.due, .int .i64 r.shelf, .int .i64 r.amount] ∧ -9223372036854775808 ≤ r.amount ∧ r.amount ≤ 9223372036854775807 := by
  obtain ⟨k0, f0, x, g0⟩ := h
  unfold Value.okWide at k0
  rw [Try.underlying46] at k0
  obtain ⟨cs, rfl, -, -⟩ := k0
  obtain ⟨z0, z1, z2, z3, z4, z5, e, hb⟩ := open_rq (cs := cs.toList) (by simpa [Value.cells] using g0)
  refine ⟨⟨z0, z1, z2, z3, z4, z5⟩, ?_, hb⟩
  have : cs = cs.toList.toArray := by simp
  rw [this, e]
theorem arg_ints (h : Arg enc Try.prog W base 32 v) : ∃ (l : List Int) (A : Option Addr) (c : Nat), v = .slice A l.length c ∧ Ints (Bf.hp W) (.slice A l.length c) l := by
  obtain ⟨k0, f0, x, g0⟩ := h
  obtain ⟨A, len, cap, rfl⟩ := okWide_slice uLV k0
  exact read_slOf (R := RI) uLV cINT (by omega) (fun f cs y hl hy => by
    obtain ⟨n, rfl, -⟩ := read_int uINT hy
    exact ⟨by intro u hu; simp at hu; subst hu; rfl, n, rfl⟩) (by simpa [Value.cells] using g0)
theorem arg_int (h : Arg enc Try.prog W base 3 v) : ∃ a : Int, v = .int .i64 a ∧ -9223372036854775808 ≤ a ∧ a ≤ 9223372036854775807 := by
  obtain ⟨k0, f0, x, g0⟩ := h
  obtain ⟨n, rfl⟩ := okWide_int uINT k0
  obtain ⟨m, e, hw⟩ := read_int uINT g0
  simp [Value.cells] at e
  subst e
  exact ⟨n, rfl, int_bounds hw⟩
end
theorem len3 {l : List Value} (h : l.length = 3) : ∃ a b c, l = [a, b, c] := lenL3 h
theorem len4 {l : List Value} (h : l.length = 4) : ∃ a b c d, l = [a, b, c, d] := lenL4 h
theorem len5 {l : List Value} (h : l.length = 5) : ∃ a b c d e, l = [a, b, c, d, e] := lenL5 h
theorem ownT' : ownKnob Try.checked.prog.godebug = none := by kernel_rfl
theorem laidT' : laidOutB Try.checked.prog = true := by kernel_rfl
end Go.Proofs.Ytlifjajcmnkhfaa

/-
  Refusals: the row of RefusalsProved.
  Conditions: none.
-/
namespace Go.Proofs.Ytlifjajcmnkhfaa
open Go Bf
open Go.ChangeShapes Go.WideShapes Go.ChangeAt Go.RowKit
set_option maxRecDepth 100000 in
theorem proved_lifted (os : Os) (started : os.Started) (H : Type) (enc : TypeId × Value → H) :
    ReturnsInHanded {} Try.checked os 3 .any (Rows.refusalsProvedSpec.pre6 enc Try.prog Try.f3 Rows.refusalsProvedRow.domain false) (Rows.refusalsProvedSpec.post enc Try.prog Try.f3 false true false false) :=
  lift_true (C := Try.checked) (ts := [38, 44, 46]) (tb := 4) started ownT' (by kernel_rfl) Try.func3
    (ChangeSpec.witness6 (enc := enc) (C := Try.checked) false ⟨#[], #[.agg #[.slice none 0 0, .slice none 0 0, .slice none 0 0, .slice none 0 0, .slice none 0 0, .slice none 0 0, .slice none 0 0, .slice none 0 0, .slice none 0 0, .slice none 0 0, .slice none 0 0], .agg #[.int .i64 0, .slice none 0 0, .slice none 0 0, .slice none 0 0, .slice none 0 0], .agg #[.int .i64 0, .int .i64 0, .int .i64 0, .int .i64 0, .int .i64 0, .int .i64 0]], []⟩ 8 (by kernel_rfl) (by kernel_rfl) (by kernel_rfl) (by kernel_rfl))
    (by rw [Try.params3]) laidT' (by kernel_rfl) rfl (fun ds h => match ds, h with | [_, _, _], _ => rfl) rfl Try.underlying4
    (fun W base vs hl ha => by
      obtain ⟨v0, v1, v2, rfl⟩ := len3 hl
      obtain ⟨ws, w, rfl, hw⟩ := arg_world (ha 0 38 v0 rfl rfl)
      obtain ⟨k, hk⟩ := arg_book (ha 1 44 v1 rfl rfl)
      obtain ⟨r, rfl, hr⟩ := arg_req (ha 2 46 v2 rfl rfl)
      exact proved_fn _ ws w hw v1 k hk r)
theorem refusalsProved_holds : Rows.RefusalsProvedSaid :=
  OpenClaim.holds_of_wide 3 Try.f3 rfl rfl rfl rfl rfl rfl rfl ⟨rfl, rfl, rfl, rfl, rfl⟩ rfl rfl rfl rfl rfl (by kernel_rfl) Try.func3 (by kernel_rfl)
    (of_decide_eq_true (by kernel_rfl)) (by unfold Func.isWrapper; first | (rw [if_pos (by decide +kernel)]; kernel_rfl) | (rw [if_neg (by decide +kernel)]; exact ⟨rfl, rfl⟩))
    (fun os started H enc _ => proved_lifted os started H enc)
end Go.Proofs.Ytlifjajcmnkhfaa

/-
  Refusals: the law RefusalsSound.
  Conditions: none.
-/
namespace Go.Proofs.Ytlifjajcmnkhfaa
open Go Bf
attribute [local irreducible] Tr Exec Stab HasTy Go.Addr.add IntKind.wrap
set_option maxHeartbeats 8000000 in
set_option maxRecDepth 20000 in
theorem sound_fn (M : Mem) (ws : List Value) (w : Wd) (hw : RWd M ws w) (v : Value) (k : Bp) (hk : RBp M v k) (r : Rq) (A : Option Addr) (c : Nat) (l : List Int) (hl : Ints M (.slice A l.length c) l) :
    Fn0 Try.prog 4 [.agg ws.toArray, v, .agg #[.int .i64 r.no, .int .i64 r.item, .int .i64 r.cust, .int .i64 r.due, .int .i64 r.shelf, .int .i64 r.amount], .slice A l.length c] M (fun v _ => v = .bool true) := by
  have h11 := hw.len
  have hll := hl.len_le
  obtain ⟨As, cs, Ar, cr, Af, cf, Ad, cd, rfl, h1, h2, h3, h4⟩ := id hk
  have hl3 := h3.len_le
  refine Fn.intro Try.func4 rfl rfl Try.ntmps4 rfl fun E F => ?_
  (repeat (first | ((with_reducible refine Tr.step rfl ?_); (first | (refine xaQ (z := ?_)) | ((with_reducible refine Knd.box ?_); (refine Exec.box rfl rfl (fun b => ?_))))) | (with_reducible first | apply Tr.next | apply Tr.seq | apply Tr.region | apply Tr.nil)))
  ((refine Tr.step rfl ?_)); refine Exec.call0 rfl (sane_fn M) rfl ?_
  rintro _ M1 hm1 rfl
  (repeat (first | ((with_reducible refine Tr.step rfl ?_); (first | ((with_reducible refine Knd.load ?_); (first | (refine xwQ (z := ?_)) | (refine Exec.stab rfl (Stab.loadW rfl (tysOk.get rfl) rfl (by repeat (first | exact Has.here | apply Has.there)) (by assumption)) rfl ?_))) | ((with_reducible refine Knd.unOp ?_); (refine Exec.stab rfl (Stab.not rfl) rfl ?_)))) | (with_reducible first | apply Tr.next | apply Tr.seq | apply Tr.region | apply Tr.nil | apply Tr.skip) | (refine Tr.cond_bf rfl (by first | (with_reducible rfl) | (with_reducible assumption) | (with_reducible exact Bool.not_true) | (with_reducible exact Bool.not_false)) ?_)))
  ((refine Tr.step rfl ?_)); refine Exec.call0 rfl (few32_fn M1 ws w (hw.mono hm1) _ k (hk.mono hm1)) rfl ?_
  rintro _ _ hm ⟨⟨q, rfl, hq⟩, rfl⟩
  cases q
  · (repeat (first | ((with_reducible refine Tr.step rfl ?_); (first | (refine xmQ (z := ?_)) | (refine xaQ (z := ?_)) | ((with_reducible refine Knd.pick ?_); (refine Exec.stab rfl (Stab.pick_t rfl (by first | (with_reducible rfl) | (with_reducible assumption) | (with_reducible exact Bool.not_true) | (with_reducible exact Bool.not_false)) rfl) rfl ?_)) | ((with_reducible refine Knd.unOp ?_); (refine Exec.stab rfl (Stab.not rfl) rfl ?_)))) | (with_reducible first | apply Tr.next | apply Tr.seq | apply Tr.region | apply Tr.nil) | (refine Tr.guard_s0 rfl rfl rfl (by first | (with_reducible rfl) | (with_reducible assumption) | (with_reducible exact Bool.not_true) | (with_reducible exact Bool.not_false)) rfl rfl ?_) | (with_reducible first | apply Tr.ret | apply Tr.then_ret) | (refine Tr.cond_bt rfl (by first | (with_reducible rfl) | (with_reducible assumption) | (with_reducible exact Bool.not_true) | (with_reducible exact Bool.not_false)) ?_)))
    (refine dnQ (hL := by exact ⟨[_, _, _], rfl⟩) (k := ⟨rfl, ?_⟩))
    rfl
  have hq := hq rfl
  by_cases h12 : 12 < l.length
  · (repeat (first | ((with_reducible refine Tr.step rfl ?_); (first | (refine xmQ (z := ?_)) | (refine xaQ (z := ?_)) | ((with_reducible refine Knd.pick ?_); (refine Exec.stab rfl (Stab.pick_f rfl (by first | (with_reducible rfl) | (with_reducible assumption) | (with_reducible exact Bool.not_true) | (with_reducible exact Bool.not_false)) rfl) rfl ?_)) | ((with_reducible refine Knd.unOp ?_); (refine Exec.stab rfl (Stab.not rfl) rfl ?_)))) | (with_reducible first | apply Tr.next | apply Tr.seq | apply Tr.region | apply Tr.nil) | ((refine Tr.guard_l rfl rfl rfl (by first | (with_reducible rfl) | (with_reducible assumption) | (with_reducible exact Bool.not_true) | (with_reducible exact Bool.not_false)) ?_); (first | (refine xmQ (z := ?_)) | (refine xnQ (z := ?_)) | (refine xiQ (z := ?_)))) | (with_reducible first | apply Tr.ret | apply Tr.then_ret) | (refine Tr.cond_t rfl (by first | (with_reducible assumption) | (with_reducible rfl) | (with_reducible exact (not_not_intro rfl)) | omega) ?_)))
    (refine dnQ (hL := by exact ⟨[_, _, _], rfl⟩) (k := ⟨rfl, ?_⟩))
    rfl
  have hlt : l.length ≤ 12 := by omega
  (repeat (first | ((with_reducible refine Tr.step rfl ?_); (first | (refine xmQ (z := ?_)) | ((with_reducible refine Knd.load ?_); (first | (refine xwQ (z := ?_)) | (refine Exec.stab rfl (Stab.loadW rfl (tysOk.get rfl) rfl (by repeat (first | exact Has.here | apply Has.there)) (by assumption)) rfl ?_))) | ((with_reducible refine Knd.pick ?_); (refine Exec.stab rfl (Stab.pick_f rfl (by first | (with_reducible rfl) | (with_reducible assumption) | (with_reducible exact Bool.not_true) | (with_reducible exact Bool.not_false)) rfl) rfl ?_)) | ((with_reducible refine Knd.unOp ?_); (refine Exec.stab rfl (Stab.not rfl) rfl ?_)))) | (with_reducible first | apply Tr.next | apply Tr.seq | apply Tr.region | apply Tr.nil) | ((refine Tr.guard_l rfl rfl rfl (by first | (with_reducible rfl) | (with_reducible assumption) | (with_reducible exact Bool.not_true) | (with_reducible exact Bool.not_false)) ?_); (first | (refine xmQ (z := ?_)) | (refine xnQ (z := ?_)) | (refine xiQ (z := ?_)))) | (with_reducible refine Tr.skip ?_) | (refine Tr.cond_f rfl (by first | (with_reducible assumption) | (with_reducible rfl) | (with_reducible exact (not_not_intro rfl)) | omega) ?_)))
  ((refine Tr.step rfl ?_)); refine Exec.call0 rfl (rcheck_fn M1 ws w (hw.mono hm1) _ k (hk.mono hm1) r A c l (hl.mono RI.mono hm1) (by omega)) rfl ?_
  rintro _ M2 hm2 hcv
  have hm02 := hm1.trans hm2
  obtain ⟨hne, rfl⟩ | ⟨hask, hok, q, rfl, hq2⟩ := hcv
  · (repeat (first | ((with_reducible refine Tr.step rfl ?_); (first | (refine xmQ (z := ?_)) | (refine xaQ (z := ?_)) | (refine xiQ (z := ?_)) | ((with_reducible refine Knd.pick ?_); (refine Exec.stab rfl (Stab.pick_td rfl (by first | (with_reducible assumption) | (with_reducible rfl) | (with_reducible exact (not_not_intro rfl)) | omega) rfl) rfl ?_)) | ((with_reducible refine Knd.unOp ?_); (refine Exec.stab rfl (Stab.not rfl) rfl ?_)) | ((with_reducible refine Knd.extract ?_); (refine Exec.stab rfl (Stab.extract rfl rfl) rfl ?_)))) | (with_reducible first | apply Tr.next | apply Tr.seq | apply Tr.region | apply Tr.nil) | (refine Tr.guard_n' rfl rfl rfl (by first | (with_reducible assumption) | (with_reducible rfl) | (with_reducible exact (not_not_intro rfl)) | omega) rfl rfl ?_) | (with_reducible first | apply Tr.ret | apply Tr.then_ret) | (refine Tr.cond_bt rfl (by first | (with_reducible rfl) | (with_reducible assumption) | (with_reducible exact Bool.not_true) | (with_reducible exact Bool.not_false)) ?_)))
    (refine dnQ (hL := by exact ⟨[_, _, _], rfl⟩) (k := ⟨rfl, ?_⟩))
    rfl
  cases q
  · (repeat (first | ((with_reducible refine Tr.step rfl ?_); (first | (refine xmQ (z := ?_)) | (refine xaQ (z := ?_)) | (refine xiQ (z := ?_)) | ((with_reducible refine Knd.pick ?_); (refine Exec.stab rfl (Stab.pick_fd rfl (by first | (with_reducible assumption) | (with_reducible rfl) | (with_reducible exact (not_not_intro rfl)) | omega) rfl) rfl ?_)) | ((with_reducible refine Knd.unOp ?_); (refine Exec.stab rfl (Stab.not rfl) rfl ?_)) | ((with_reducible refine Knd.extract ?_); (refine Exec.stab rfl (Stab.extract rfl rfl) rfl ?_)))) | (with_reducible first | apply Tr.next | apply Tr.seq | apply Tr.region | apply Tr.nil) | ((refine Tr.guard_y' rfl rfl rfl (by first | (with_reducible assumption) | (with_reducible rfl) | (with_reducible exact (not_not_intro rfl)) | omega) ?_); (first | (refine xmQ (z := ?_)) | ((with_reducible refine Knd.unOp ?_); (refine Exec.stab rfl (Stab.not rfl) rfl ?_)))) | (with_reducible first | apply Tr.ret | apply Tr.then_ret) | (refine Tr.cond_bt rfl (by first | (with_reducible rfl) | (with_reducible assumption) | (with_reducible exact Bool.not_true) | (with_reducible exact Bool.not_false)) ?_)))
    (refine dnQ (hL := by exact ⟨[_, _, _], rfl⟩) (k := ⟨rfl, ?_⟩))
    rfl
  have hchk := hq2.1 rfl
  have l64 := hok.2.1.1.2
  have hno := chk_no hask hchk
  obtain ⟨hokT, hnoT⟩ := chk_kept hask hchk
  (repeat (first | ((with_reducible refine Tr.step rfl ?_); (first | (refine xmQ (z := ?_)) | (refine xaQ (z := ?_)) | ((with_reducible refine Knd.load ?_); (first | (refine xwQ (z := ?_)) | (refine Exec.stab rfl (Stab.loadW rfl (tysOk.get rfl) rfl (by repeat (first | exact Has.here | apply Has.there)) (by assumption)) rfl ?_))) | (refine xiQ (z := ?_)) | ((with_reducible refine Knd.pick ?_); (refine Exec.stab rfl (Stab.pick_fd rfl (by first | (with_reducible assumption) | (with_reducible rfl) | (with_reducible exact (not_not_intro rfl)) | omega) rfl) rfl ?_)) | ((with_reducible refine Knd.extract ?_); (refine Exec.stab rfl (Stab.extract rfl rfl) rfl ?_)))) | (with_reducible first | apply Tr.next | apply Tr.seq | apply Tr.region | apply Tr.nil) | ((refine Tr.guard_y' rfl rfl rfl (by first | (with_reducible assumption) | (with_reducible rfl) | (with_reducible exact (not_not_intro rfl)) | omega) ?_); (first | (refine xmQ (z := ?_)) | ((with_reducible refine Knd.unOp ?_); (refine Exec.stab rfl (Stab.not rfl) rfl ?_)))) | (with_reducible refine Tr.skip ?_) | (refine Tr.cond_bf rfl (by first | (with_reducible rfl) | (with_reducible assumption) | (with_reducible exact Bool.not_true) | (with_reducible exact Bool.not_false)) ?_)))
  ((refine Tr.step rfl ?_)); refine Exec.call0 rfl (askA_fn M2 ws w (hw.mono hm02) _ k (hk.mono hm02) hl3 r) rfl ?_
  rintro _ M3 hm3 (⟨-, -, x, a, rfl, D, cD, hD, ⟨hF, -⟩ | ⟨-, hx, B, cB, rfl, hB⟩⟩ | ⟨hne, -⟩)
  · exact absurd hF hno
  rotate_left
  · exact absurd hask hne
  have hm03 := hm02.trans hm3
  obtain ⟨y1, y2, y3, y4, y5, y6, y7, y8, rfl⟩ := hx.lit
  (repeat (first | ((with_reducible refine Tr.step rfl ?_); (first | (refine xmQ (z := ?_)) | (refine xaQ (z := ?_)) | ((with_reducible refine Knd.store ?_); (refine Exec.storeW rfl rfl (tysOk.get rfl) (by repeat (first | exact Upd.here | apply Upd.there)) rfl rfl (by repeat (first | (with_reducible assumption) | exact AllOne.nil | exact AllOne.bytes _ | refine AllOne.cons (by first | rfl | assumption) ?_)) ?_)) | ((with_reducible refine Knd.alloc ?_); (refine Exec.alloc (tysOk.get rfl) rfl rfl (fun b => ?_))) | ((with_reducible refine Knd.extract ?_); (refine Exec.stab rfl (Stab.extract rfl rfl) rfl ?_)))) | (with_reducible first | apply Tr.next | apply Tr.seq | apply Tr.nil)))
  (((apply Tr.draw); (kernel_rfl)); (refine tkQ 0 (hB := by exact fun _ h => h) (s := by exact Stab.loadW rfl (tysOk.get rfl) rfl (by repeat (first | exact Has.here | apply Has.there)) (by assumption)) (h := ?_)); (refine tkQ 1 (s := by exact sfQ) (h := ?_)); (refine tkQ 3 (s := by exact swQ) (h := ?_)); (refine tkQ 4 (s := by exact Stab.move rfl) (h := ?_)); (refine tkQ 5 (s := by exact swQ) (h := ?_)); (refine tkQ 7 (s := by exact sfQ) (h := ?_)); (refine tkQ 2 (s := by exact slQ) (h := ?_)); (refine tkQ 8 (s := by exact slQ) (h := ?_)); (refine TrA.eff 6 rfl (by kernel_rfl) (by first | exact .inl rfl | exact .inr ⟨_, _, _, rfl, rfl, rfl⟩) ?_))
  refine Exec.call0 rfl (requests_fn M3 _ k (hk.mono hm03) A c l (hl.mono RI.mono hm03) (by omega) (by omega) r) rfl ?_
  rintro _ M4 hm4 ⟨B4, k4, rfl, hr4⟩
  refine ⟨hm4, (by exact fun _ h => h), ?_⟩
  ((refine TrA.eff 9 rfl (by kernel_rfl) (by first | exact .inl rfl | exact .inr ⟨_, _, _, rfl, rfl, rfl⟩) ?_))
  have hm04 := hm03.trans hm4
  refine Exec.call0 rfl (meet_fn M4 ws w (hw.mono hm04) As B4 cs k4 k.sups (reqX l k.reqs ++ [r]) k.known (h1.mono RSpC.mono hm04) hr4 hokT) rfl ?_
  rintro _ M5 hm5 ⟨p, rfl, hp⟩
  refine ⟨hm5, (by exact fun _ h => h), ?_⟩
  have hpf : p = false := by
    cases p
    · rfl
    · exact absurd (hp.1 rfl) hnoT
  subst hpf
  ((refine tkQ 10 (s := by exact Stab.move rfl) (h := ?_)); (refine tkQ 11 (s := by exact Stab.extract rfl rfl) (h := ?_)); (refine tkQ 12 (s := by exact Stab.extract rfl rfl) (h := ?_)); (refine tkQ 13 (s := by exact Stab.assign rfl) (h := ?_)); (refine tkQ 14 (s := by exact Stab.assign rfl) (h := ?_)); (refine TrA.done (by kernel_rfl) ?_))
  have hm05 := hm04.trans hm5
  (repeat (first | ((with_reducible refine Tr.step rfl ?_); (first | (refine xmQ (z := ?_)) | (refine xaQ (z := ?_)) | (refine xiQ (z := ?_)) | ((with_reducible refine Knd.pick ?_); (first | (refine Exec.stab rfl (Stab.pick_t rfl (by first | (with_reducible rfl) | (with_reducible assumption) | (with_reducible exact Bool.not_true) | (with_reducible exact Bool.not_false)) rfl) rfl ?_) | (refine Exec.stab rfl (Stab.pick_td rfl (by first | (with_reducible assumption) | (with_reducible rfl) | (with_reducible exact (not_not_intro rfl)) | omega) rfl) rfl ?_))))) | (with_reducible first | apply Tr.next | apply Tr.seq | apply Tr.region | apply Tr.nil) | ((refine Tr.guard_l rfl rfl rfl (by first | (with_reducible rfl) | (with_reducible assumption) | (with_reducible exact Bool.not_true) | (with_reducible exact Bool.not_false)) ?_); (first | (refine xmQ (z := ?_)) | ((with_reducible refine Knd.unOp ?_); (refine Exec.stab rfl (Stab.not rfl) rfl ?_)))) | ((refine Tr.guard_y rfl rfl rfl (by first | (with_reducible assumption) | (with_reducible rfl) | (with_reducible exact (not_not_intro rfl)) | omega) ?_); (first | (refine xlQ (z := ?_)) | (refine xfQ (z := ?_)) | ((with_reducible refine Knd.unOp ?_); (refine Exec.stab rfl (Stab.not rfl) rfl ?_)))) | (with_reducible refine Tr.ret ?_)))
  (refine dnQ (hL := by exact ⟨[_, _, _, _, _], rfl⟩) (k := ⟨rfl, ?_⟩))
  rfl
end Go.Proofs.Ytlifjajcmnkhfaa

/-
  Refusals: the row of RefusalsSound.
  Conditions: none.
-/
namespace Go.Proofs.Ytlifjajcmnkhfaa
open Go Bf
open Go.ChangeShapes Go.WideShapes Go.ChangeAt Go.RowKit
set_option maxRecDepth 100000 in
theorem sound_lifted (os : Os) (started : os.Started) (H : Type) (enc : TypeId × Value → H) :
    ReturnsInHanded {} Try.checked os 4 .any (Rows.refusalsSoundSpec.pre6 enc Try.prog Try.f4 Rows.refusalsSoundRow.domain false) (Rows.refusalsSoundSpec.post enc Try.prog Try.f4 false true false false) :=
  lift_true (C := Try.checked) (ts := [38, 44, 46, 32]) (tb := 4) started ownT' (by kernel_rfl) Try.func4
    (ChangeSpec.witness6 (enc := enc) (C := Try.checked) false ⟨#[], #[.agg #[.slice none 0 0, .slice none 0 0, .slice none 0 0, .slice none 0 0, .slice none 0 0, .slice none 0 0, .slice none 0 0, .slice none 0 0, .slice none 0 0, .slice none 0 0, .slice none 0 0], .agg #[.int .i64 0, .slice none 0 0, .slice none 0 0, .slice none 0 0, .slice none 0 0], .agg #[.int .i64 0, .int .i64 0, .int .i64 0, .int .i64 0, .int .i64 0, .int .i64 0], .slice none 0 0], []⟩ 8 (by kernel_rfl) (by kernel_rfl) (by kernel_rfl) (by kernel_rfl))
    (by rw [Try.params4]) laidT' (by kernel_rfl) rfl (fun ds h => match ds, h with | [_, _, _, _], _ => rfl) rfl Try.underlying4
    (fun W base vs hl ha => by
      obtain ⟨v0, v1, v2, v3, rfl⟩ := len4 hl
      obtain ⟨ws, w, rfl, hw⟩ := arg_world (ha 0 38 v0 rfl rfl)
      obtain ⟨k, hk⟩ := arg_book (ha 1 44 v1 rfl rfl)
      obtain ⟨r, rfl, hr⟩ := arg_req (ha 2 46 v2 rfl rfl)
      obtain ⟨l, A, c, rfl, hl3⟩ := arg_ints (ha 3 32 v3 rfl rfl)
      exact sound_fn _ ws w hw v1 k hk r A c l hl3)
theorem refusalsSound_holds : Rows.RefusalsSoundSaid :=
  OpenClaim.holds_of_wide 4 Try.f4 rfl rfl rfl rfl rfl rfl rfl ⟨rfl, rfl, rfl, rfl, rfl⟩ rfl rfl rfl rfl rfl (by kernel_rfl) Try.func4 (by kernel_rfl)
    (of_decide_eq_true (by kernel_rfl)) (by unfold Func.isWrapper; first | (rw [if_pos (by decide +kernel)]; kernel_rfl) | (rw [if_neg (by decide +kernel)]; exact ⟨rfl, rfl⟩))
    (fun os started H enc _ => sound_lifted os started H enc)
end Go.Proofs.Ytlifjajcmnkhfaa

/-
  Refusals: the law RefusalsMore.
  Conditions: none.
-/
namespace Go.Proofs.Ytlifjajcmnkhfaa
open Go Bf
attribute [local irreducible] Tr Exec Stab HasTy Go.Addr.add IntKind.wrap
/-- Check and Least answer without an error or with one -/
theorem LeastV.err {w : Wd} {k : Bp} {r : Rq} {v : Value} {M : Mem} (h : LeastV w k r v M) : ∃ x e, v = .tuple #[x, .int .i64 e] ∧ (e = 0 ↔ askE w k r = 0 ∧ ¬ Feas (pbW w k.known k.sups (k.reqs ++ [r]))) := by
  rcases h with ⟨h1, rfl⟩ | ⟨h1, -, h2, rfl⟩ | ⟨h1, -, h2, B, c, rfl, -⟩
  · exact ⟨_, _, rfl, fun h => absurd h h1, fun h => absurd h.1 h1⟩
  · exact ⟨_, _, rfl, fun h => absurd h (by decide), fun h => absurd h2 h.2⟩
  · exact ⟨_, _, rfl, fun _ => ⟨h1, h2⟩, fun _ => rfl⟩
set_option maxHeartbeats 8000000 in
set_option maxRecDepth 20000 in
theorem more_fn (M : Mem) (ws : List Value) (w : Wd) (hw : RWd M ws w) (v : Value) (k : Bp) (hk : RBp M v k) (r : Rq) (hr64 : -9223372036854775808 ≤ r.amount ∧ r.amount ≤ 9223372036854775807) (A : Option Addr) (c : Nat) (l : List Int) (hl : Ints M (.slice A l.length c) l) (y : Int) (hy64 : -9223372036854775808 ≤ y ∧ y ≤ 9223372036854775807) :
    Fn0 Try.prog 5 [.agg ws.toArray, v, .agg #[.int .i64 r.no, .int .i64 r.item, .int .i64 r.cust, .int .i64 r.due, .int .i64 r.shelf, .int .i64 r.amount], .slice A l.length c, .int .i64 y] M (fun v _ => v = .bool true) := by
  have h11 := hw.len
  have hll := hl.len_le
  obtain ⟨As, cs, Ar, cr, Af, cf, Ad, cd, rfl, h1, h2, h3, h4⟩ := id hk
  refine Fn.intro Try.func5 rfl rfl Try.ntmps5 rfl fun E F => ?_
  (repeat (first | ((with_reducible refine Tr.step rfl ?_); (first | (refine xaQ (z := ?_)) | ((with_reducible refine Knd.box ?_); (refine Exec.box rfl rfl (fun b => ?_))))) | (with_reducible first | apply Tr.next | apply Tr.seq | apply Tr.region | apply Tr.nil)))
  ((refine Tr.step rfl ?_)); refine Exec.call0 rfl (sane_fn M) rfl ?_
  rintro _ M1 hm1 rfl
  (repeat (first | ((with_reducible refine Tr.step rfl ?_); (first | ((with_reducible refine Knd.load ?_); (first | (refine xwQ (z := ?_)) | (refine Exec.stab rfl (Stab.loadW rfl (tysOk.get rfl) rfl (by repeat (first | exact Has.here | apply Has.there)) (by assumption)) rfl ?_))) | ((with_reducible refine Knd.unOp ?_); (refine Exec.stab rfl (Stab.not rfl) rfl ?_)))) | (with_reducible first | apply Tr.next | apply Tr.seq | apply Tr.region | apply Tr.nil | apply Tr.skip) | (refine Tr.cond_bf rfl (by first | (with_reducible rfl) | (with_reducible assumption) | (with_reducible exact Bool.not_true) | (with_reducible exact Bool.not_false)) ?_)))
  ((refine Tr.step rfl ?_)); refine Exec.call0 rfl (few32_fn M1 ws w (hw.mono hm1) _ k (hk.mono hm1)) rfl ?_
  rintro _ _ hm ⟨⟨q, rfl, hq⟩, rfl⟩
  cases q
  · (repeat (first | ((with_reducible refine Tr.step rfl ?_); (first | (refine xmQ (z := ?_)) | (refine xaQ (z := ?_)) | ((with_reducible refine Knd.pick ?_); (refine Exec.stab rfl (Stab.pick_t rfl (by first | (with_reducible rfl) | (with_reducible assumption) | (with_reducible exact Bool.not_true) | (with_reducible exact Bool.not_false)) rfl) rfl ?_)) | ((with_reducible refine Knd.unOp ?_); (refine Exec.stab rfl (Stab.not rfl) rfl ?_)))) | (with_reducible first | apply Tr.next | apply Tr.seq | apply Tr.region | apply Tr.nil) | (refine Tr.guard_s0 rfl rfl rfl (by first | (with_reducible rfl) | (with_reducible assumption) | (with_reducible exact Bool.not_true) | (with_reducible exact Bool.not_false)) rfl rfl ?_) | (with_reducible first | apply Tr.ret | apply Tr.then_ret) | (refine Tr.cond_bt rfl (by first | (with_reducible rfl) | (with_reducible assumption) | (with_reducible exact Bool.not_true) | (with_reducible exact Bool.not_false)) ?_)))
    (refine dnQ (hL := by exact ⟨[_, _, _], rfl⟩) (k := ⟨rfl, ?_⟩))
    rfl
  clear hq
  by_cases h12 : 12 < l.length
  · (repeat (first | ((with_reducible refine Tr.step rfl ?_); (first | (refine xmQ (z := ?_)) | (refine xaQ (z := ?_)) | ((with_reducible refine Knd.pick ?_); (first | (refine Exec.stab rfl (Stab.pick_t rfl (by first | (with_reducible rfl) | (with_reducible assumption) | (with_reducible exact Bool.not_true) | (with_reducible exact Bool.not_false)) rfl) rfl ?_) | (refine Exec.stab rfl (Stab.pick_f rfl (by first | (with_reducible rfl) | (with_reducible assumption) | (with_reducible exact Bool.not_true) | (with_reducible exact Bool.not_false)) rfl) rfl ?_) | (refine Exec.stab rfl (Stab.pick_td rfl (by first | (with_reducible assumption) | (with_reducible rfl) | (with_reducible exact (not_not_intro rfl)) | omega) rfl) rfl ?_))) | ((with_reducible refine Knd.unOp ?_); (refine Exec.stab rfl (Stab.not rfl) rfl ?_)))) | (with_reducible first | apply Tr.next | apply Tr.seq | apply Tr.region | apply Tr.nil) | ((refine Tr.guard_l rfl rfl rfl (by first | (with_reducible rfl) | (with_reducible assumption) | (with_reducible exact Bool.not_true) | (with_reducible exact Bool.not_false)) ?_); (first | (refine xmQ (z := ?_)) | (refine xnQ (z := ?_)) | (refine xiQ (z := ?_)))) | (refine Tr.guard_s0 rfl rfl rfl (by first | (with_reducible rfl) | (with_reducible assumption) | (with_reducible exact Bool.not_true) | (with_reducible exact Bool.not_false)) rfl rfl ?_) | (refine Tr.guard_n' rfl rfl rfl (by first | (with_reducible assumption) | (with_reducible rfl) | (with_reducible exact (not_not_intro rfl)) | omega) rfl rfl ?_) | (with_reducible first | apply Tr.ret | apply Tr.then_ret) | (refine Tr.cond_bt rfl (by first | (with_reducible rfl) | (with_reducible assumption) | (with_reducible exact Bool.not_true) | (with_reducible exact Bool.not_false)) ?_)))
    (refine dnQ (hL := by exact ⟨[_, _, _], rfl⟩) (k := ⟨rfl, ?_⟩))
    rfl
  by_cases hy0 : y < 0
  · (repeat (first | ((with_reducible refine Tr.step rfl ?_); (first | (refine xmQ (z := ?_)) | (refine xaQ (z := ?_)) | ((with_reducible refine Knd.pick ?_); (first | (refine Exec.stab rfl (Stab.pick_t rfl (by first | (with_reducible rfl) | (with_reducible assumption) | (with_reducible exact Bool.not_true) | (with_reducible exact Bool.not_false)) rfl) rfl ?_) | (refine Exec.stab rfl (Stab.pick_f rfl (by first | (with_reducible rfl) | (with_reducible assumption) | (with_reducible exact Bool.not_true) | (with_reducible exact Bool.not_false)) rfl) rfl ?_) | (refine Exec.stab rfl (Stab.pick_td rfl (by first | (with_reducible assumption) | (with_reducible rfl) | (with_reducible exact (not_not_intro rfl)) | omega) rfl) rfl ?_) | (refine Exec.stab rfl (Stab.pick_fd rfl (by first | (with_reducible assumption) | (with_reducible rfl) | (with_reducible exact (not_not_intro rfl)) | omega) rfl) rfl ?_))) | ((with_reducible refine Knd.unOp ?_); (refine Exec.stab rfl (Stab.not rfl) rfl ?_)))) | (with_reducible first | apply Tr.next | apply Tr.seq | apply Tr.region | apply Tr.nil) | ((refine Tr.guard_l rfl rfl rfl (by first | (with_reducible rfl) | (with_reducible assumption) | (with_reducible exact Bool.not_true) | (with_reducible exact Bool.not_false)) ?_); (first | (refine xmQ (z := ?_)) | (refine xnQ (z := ?_)) | (refine xiQ (z := ?_)))) | (refine Tr.guard_s0 rfl rfl rfl (by first | (with_reducible rfl) | (with_reducible assumption) | (with_reducible exact Bool.not_true) | (with_reducible exact Bool.not_false)) rfl rfl ?_) | ((refine Tr.guard_y' rfl rfl rfl (by first | (with_reducible assumption) | (with_reducible rfl) | (with_reducible exact (not_not_intro rfl)) | omega) ?_); (first | (refine xmQ (z := ?_)) | (refine xiQ (z := ?_)))) | (refine Tr.guard_n' rfl rfl rfl (by first | (with_reducible assumption) | (with_reducible rfl) | (with_reducible exact (not_not_intro rfl)) | omega) rfl rfl ?_) | (with_reducible first | apply Tr.ret | apply Tr.then_ret) | (refine Tr.cond_bt rfl (by first | (with_reducible rfl) | (with_reducible assumption) | (with_reducible exact Bool.not_true) | (with_reducible exact Bool.not_false)) ?_)))
    (refine dnQ (hL := by exact ⟨[_, _, _], rfl⟩) (k := ⟨rfl, ?_⟩))
    rfl
  by_cases hy1 : 1000 < y
  · (repeat (first | ((with_reducible refine Tr.step rfl ?_); (first | (refine xmQ (z := ?_)) | (refine xaQ (z := ?_)) | ((with_reducible refine Knd.pick ?_); (first | (refine Exec.stab rfl (Stab.pick_f rfl (by first | (with_reducible rfl) | (with_reducible assumption) | (with_reducible exact Bool.not_true) | (with_reducible exact Bool.not_false)) rfl) rfl ?_) | (refine Exec.stab rfl (Stab.pick_td rfl (by first | (with_reducible assumption) | (with_reducible rfl) | (with_reducible exact (not_not_intro rfl)) | omega) rfl) rfl ?_) | (refine Exec.stab rfl (Stab.pick_fd rfl (by first | (with_reducible assumption) | (with_reducible rfl) | (with_reducible exact (not_not_intro rfl)) | omega) rfl) rfl ?_))) | ((with_reducible refine Knd.unOp ?_); (refine Exec.stab rfl (Stab.not rfl) rfl ?_)))) | (with_reducible first | apply Tr.next | apply Tr.seq | apply Tr.region | apply Tr.nil) | ((refine Tr.guard_l rfl rfl rfl (by first | (with_reducible rfl) | (with_reducible assumption) | (with_reducible exact Bool.not_true) | (with_reducible exact Bool.not_false)) ?_); (first | (refine xmQ (z := ?_)) | (refine xnQ (z := ?_)) | (refine xiQ (z := ?_)))) | ((refine Tr.guard_y' rfl rfl rfl (by first | (with_reducible assumption) | (with_reducible rfl) | (with_reducible exact (not_not_intro rfl)) | omega) ?_); (first | (refine xmQ (z := ?_)) | (refine xiQ (z := ?_)))) | (refine Tr.guard_n' rfl rfl rfl (by first | (with_reducible assumption) | (with_reducible rfl) | (with_reducible exact (not_not_intro rfl)) | omega) rfl rfl ?_) | (with_reducible first | apply Tr.ret | apply Tr.then_ret) | (refine Tr.cond_bt rfl (by first | (with_reducible rfl) | (with_reducible assumption) | (with_reducible exact Bool.not_true) | (with_reducible exact Bool.not_false)) ?_)))
    (refine dnQ (hL := by exact ⟨[_, _, _], rfl⟩) (k := ⟨rfl, ?_⟩))
    rfl
  by_cases hy2 : 1048576 - y < r.amount
  · (repeat (first | ((with_reducible refine Tr.step rfl ?_); (first | (refine xmQ (z := ?_)) | (refine xaQ (z := ?_)) | ((with_reducible refine Knd.pick ?_); (first | (refine Exec.stab rfl (Stab.pick_f rfl (by first | (with_reducible rfl) | (with_reducible assumption) | (with_reducible exact Bool.not_true) | (with_reducible exact Bool.not_false)) rfl) rfl ?_) | (refine Exec.stab rfl (Stab.pick_fd rfl (by first | (with_reducible assumption) | (with_reducible rfl) | (with_reducible exact (not_not_intro rfl)) | omega) rfl) rfl ?_))) | ((with_reducible refine Knd.unOp ?_); (refine Exec.stab rfl (Stab.not rfl) rfl ?_)))) | (with_reducible first | apply Tr.next | apply Tr.seq | apply Tr.region | apply Tr.nil) | ((refine Tr.guard_l rfl rfl rfl (by first | (with_reducible rfl) | (with_reducible assumption) | (with_reducible exact Bool.not_true) | (with_reducible exact Bool.not_false)) ?_); (first | (refine xmQ (z := ?_)) | (refine xnQ (z := ?_)) | (refine xiQ (z := ?_)))) | ((refine Tr.guard_y' rfl rfl rfl (by first | (with_reducible assumption) | (with_reducible rfl) | (with_reducible exact (not_not_intro rfl)) | omega) ?_); (first | (refine xmQ (z := ?_)) | (refine xlQ (z := ?_)) | (refine xfQ (z := ?_)) | ((with_reducible refine Knd.binOp ?_); (first | (refine Exec.stab rfl (Stab.subi rfl rfl (by omega)) rfl ?_) | (refine xiQ (z := ?_)))))) | (with_reducible first | apply Tr.ret | apply Tr.then_ret) | (refine Tr.cond_t rfl (by first | (with_reducible assumption) | (with_reducible rfl) | (with_reducible exact (not_not_intro rfl)) | omega) ?_)))
    (refine dnQ (hL := by exact ⟨[_, _, _], rfl⟩) (k := ⟨rfl, ?_⟩))
    rfl
  (repeat (first | ((with_reducible refine Tr.step rfl ?_); (first | (refine xmQ (z := ?_)) | ((with_reducible refine Knd.load ?_); (first | (refine xlQ (z := ?_)) | (refine xwQ (z := ?_)) | (refine Exec.stab rfl (Stab.loadW rfl (tysOk.get rfl) rfl (by repeat (first | exact Has.here | apply Has.there)) (by assumption)) rfl ?_))) | (refine xfQ (z := ?_)) | (refine xdQ (z := ?_)) | ((with_reducible refine Knd.pick ?_); (first | (refine Exec.stab rfl (Stab.pick_f rfl (by first | (with_reducible rfl) | (with_reducible assumption) | (with_reducible exact Bool.not_true) | (with_reducible exact Bool.not_false)) rfl) rfl ?_) | (refine Exec.stab rfl (Stab.pick_fd rfl (by first | (with_reducible assumption) | (with_reducible rfl) | (with_reducible exact (not_not_intro rfl)) | omega) rfl) rfl ?_))) | ((with_reducible refine Knd.unOp ?_); (refine Exec.stab rfl (Stab.not rfl) rfl ?_)) | ((with_reducible refine Knd.store ?_); (first | (refine xSQ (z := ?_)) | (refine Exec.storeW rfl rfl (tysOk.get rfl) (by repeat (first | exact Upd.here | apply Upd.there)) rfl rfl (by repeat (first | (with_reducible assumption) | exact AllOne.nil | exact AllOne.bytes _ | refine AllOne.cons (by first | rfl | assumption) ?_)) ?_))) | ((with_reducible refine Knd.alloc ?_); (refine Exec.alloc (tysOk.get rfl) rfl rfl (fun b => ?_))))) | (with_reducible first | apply Tr.next | apply Tr.seq | apply Tr.region | apply Tr.nil) | ((refine Tr.guard_l rfl rfl rfl (by first | (with_reducible rfl) | (with_reducible assumption) | (with_reducible exact Bool.not_true) | (with_reducible exact Bool.not_false)) ?_); (first | (refine xmQ (z := ?_)) | (refine xnQ (z := ?_)) | (refine xiQ (z := ?_)))) | ((refine Tr.guard_y' rfl rfl rfl (by first | (with_reducible assumption) | (with_reducible rfl) | (with_reducible exact (not_not_intro rfl)) | omega) ?_); (first | (refine xmQ (z := ?_)) | (refine xlQ (z := ?_)) | (refine xfQ (z := ?_)) | ((with_reducible refine Knd.binOp ?_); (first | (refine Exec.stab rfl (Stab.subi rfl rfl (by omega)) rfl ?_) | (refine xiQ (z := ?_)))))) | (with_reducible refine Tr.skip ?_) | (refine Tr.cond_f rfl (by first | (with_reducible assumption) | (with_reducible rfl) | (with_reducible exact (not_not_intro rfl)) | omega) ?_)))
  ((refine Tr.step rfl ?_)); refine Exec.call0 rfl (rcheck_fn M1 ws w (hw.mono hm1) _ k (hk.mono hm1) r A c l (hl.mono RI.mono hm1) (by omega)) rfl ?_
  rintro _ M2 hm2 hcv
  have hm02 := hm1.trans hm2
  obtain ⟨hne, rfl⟩ | ⟨hask, hok, q1, rfl, hq1⟩ := hcv
  · (repeat (first | ((with_reducible refine Tr.step rfl ?_); (first | (refine xmQ (z := ?_)) | (refine xaQ (z := ?_)) | ((with_reducible refine Knd.load ?_); (first | (refine xwQ (z := ?_)) | (refine Exec.stab rfl (Stab.loadW rfl (tysOk.get rfl) rfl (by repeat (first | exact Has.here | apply Has.there)) (by assumption)) rfl ?_))) | ((with_reducible refine Knd.extract ?_); (refine Exec.stab rfl (Stab.extract rfl rfl) rfl ?_)))) | (with_reducible first | apply Tr.next | apply Tr.seq | apply Tr.region | apply Tr.nil)))
    ((refine Tr.step rfl ?_)); refine Exec.call0 rfl (rcheck_fn M2 ws w (hw.mono hm02) _ k (hk.mono hm02) (moreR r y) A c l (hl.mono RI.mono hm02) (by omega)) rfl ?_
    rintro _ M3 hm3 hcv
    have hm03 := hm02.trans hm3
    obtain ⟨hne2, rfl⟩ | ⟨-, -, q1, rfl, -⟩ := hcv
    · (repeat (first | ((with_reducible refine Tr.step rfl ?_); (first | (refine xmQ (z := ?_)) | (refine xaQ (z := ?_)) | (refine xiQ (z := ?_)) | ((with_reducible refine Knd.extract ?_); (refine Exec.stab rfl (Stab.extract rfl rfl) rfl ?_)))) | (with_reducible first | apply Tr.next | apply Tr.seq | apply Tr.region | apply Tr.nil | apply Tr.ret | apply Tr.then_ret) | (refine Tr.cond_t rfl (by first | (with_reducible assumption) | (with_reducible rfl) | (with_reducible exact (not_not_intro rfl)) | omega) ?_)))
      (refine dnQ (hL := by exact ⟨[_, _, _, _], rfl⟩) (k := ⟨rfl, ?_⟩))
      rfl
    · (repeat (first | ((with_reducible refine Tr.step rfl ?_); (first | (refine xmQ (z := ?_)) | (refine xaQ (z := ?_)) | (refine xiQ (z := ?_)) | ((with_reducible refine Knd.extract ?_); (refine Exec.stab rfl (Stab.extract rfl rfl) rfl ?_)))) | (with_reducible first | apply Tr.next | apply Tr.seq | apply Tr.region | apply Tr.nil | apply Tr.ret | apply Tr.then_ret) | (refine Tr.cond_t rfl (by first | (with_reducible assumption) | (with_reducible rfl) | (with_reducible exact (not_not_intro rfl)) | omega) ?_)))
      (refine dnQ (hL := by exact ⟨[_, _, _, _], rfl⟩) (k := ⟨rfl, ?_⟩))
      rfl
  have hask2 := more_ask (y := y) (by omega) (by omega) hask
  have hr0 : 0 ≤ r.amount := ((okT_app hok.2.1).1 (askE_zero hask).2.2).1.2.2.2.2.2.1
  (repeat (first | ((with_reducible refine Tr.step rfl ?_); (first | (refine xmQ (z := ?_)) | (refine xaQ (z := ?_)) | ((with_reducible refine Knd.load ?_); (first | (refine xwQ (z := ?_)) | (refine Exec.stab rfl (Stab.loadW rfl (tysOk.get rfl) rfl (by repeat (first | exact Has.here | apply Has.there)) (by assumption)) rfl ?_))) | ((with_reducible refine Knd.extract ?_); (refine Exec.stab rfl (Stab.extract rfl rfl) rfl ?_)))) | (with_reducible first | apply Tr.next | apply Tr.seq | apply Tr.region | apply Tr.nil)))
  ((refine Tr.step rfl ?_)); refine Exec.call0 rfl (rcheck_fn M2 ws w (hw.mono hm02) _ k (hk.mono hm02) (moreR r y) A c l (hl.mono RI.mono hm02) (by omega)) rfl ?_
  rintro _ M3 hm3 hcv
  have hm03 := hm02.trans hm3
  obtain ⟨hne2, -⟩ | ⟨-, -, q2, rfl, hq2⟩ := hcv
  · exact absurd hask2 hne2
  (repeat (first | ((with_reducible refine Tr.step rfl ?_); (first | (refine xmQ (z := ?_)) | (refine xaQ (z := ?_)) | ((with_reducible refine Knd.load ?_); (first | (refine xwQ (z := ?_)) | (refine Exec.stab rfl (Stab.loadW rfl (tysOk.get rfl) rfl (by repeat (first | exact Has.here | apply Has.there)) (by assumption)) rfl ?_))) | (refine xiQ (z := ?_)) | ((with_reducible refine Knd.extract ?_); (refine Exec.stab rfl (Stab.extract rfl rfl) rfl ?_)))) | (with_reducible first | apply Tr.next | apply Tr.seq | apply Tr.region | apply Tr.nil | apply Tr.skip) | (refine Tr.cond_f rfl (by first | (with_reducible assumption) | (with_reducible rfl) | (with_reducible exact (not_not_intro rfl)) | omega) ?_)))
  ((refine Tr.step rfl ?_)); refine Exec.call0 rfl (least_fn M3 ws w (hw.mono hm03) _ k (hk.mono hm03) r) rfl ?_
  rintro _ M4 hm4 hlv
  have hm04 := hm03.trans hm4
  obtain ⟨x1, e1, rfl, he1⟩ := hlv.err
  (repeat (first | ((with_reducible refine Tr.step rfl ?_); (first | (refine xmQ (z := ?_)) | (refine xaQ (z := ?_)) | ((with_reducible refine Knd.load ?_); (first | (refine xwQ (z := ?_)) | (refine Exec.stab rfl (Stab.loadW rfl (tysOk.get rfl) rfl (by repeat (first | exact Has.here | apply Has.there)) (by assumption)) rfl ?_))) | ((with_reducible refine Knd.extract ?_); (refine Exec.stab rfl (Stab.extract rfl rfl) rfl ?_)))) | (with_reducible first | apply Tr.next | apply Tr.seq | apply Tr.region | apply Tr.nil)))
  ((refine Tr.step rfl ?_)); refine Exec.call0 rfl (least_fn M4 ws w (hw.mono hm04) _ k (hk.mono hm04) (moreR r y)) rfl ?_
  rintro _ M5 hm5 hlv2
  have hm05 := hm04.trans hm5
  obtain ⟨x2, e2, rfl, he2⟩ := hlv2.err
  have hq12 : q1 = true → q2 = true := fun h => hq2.2 (more_chk (by omega) (hq1.1 h))
  have he12 : e1 = 0 → e2 = 0 := fun h => he2.2 ⟨hask2, more_no (by omega) hask2 (he1.1 h).2 hr0⟩
  cases q1
  · cases q2
    all_goals
      by_cases h0 : e1 = 0
      · have h20 := he12 h0
        subst h0 h20
        (repeat (first | ((with_reducible refine Tr.step rfl ?_); (first | (refine xmQ (z := ?_)) | (refine xaQ (z := ?_)) | (refine xiQ (z := ?_)) | ((with_reducible refine Knd.pick ?_); (first | (refine Exec.stab rfl (Stab.pick_t rfl (by first | (with_reducible rfl) | (with_reducible assumption) | (with_reducible exact Bool.not_true) | (with_reducible exact Bool.not_false)) rfl) rfl ?_) | (refine Exec.stab rfl (Stab.pick_td rfl (by first | (with_reducible assumption) | (with_reducible rfl) | (with_reducible exact (not_not_intro rfl)) | omega) rfl) rfl ?_))) | ((with_reducible refine Knd.extract ?_); (refine Exec.stab rfl (Stab.extract rfl rfl) rfl ?_)))) | (with_reducible first | apply Tr.next | apply Tr.seq | apply Tr.region | apply Tr.nil) | ((refine Tr.guard_l rfl rfl rfl (by first | (with_reducible rfl) | (with_reducible assumption) | (with_reducible exact Bool.not_true) | (with_reducible exact Bool.not_false)) ?_); (first | (refine xmQ (z := ?_)) | (refine xiQ (z := ?_)) | ((with_reducible refine Knd.pick ?_); (refine Exec.stab rfl (Stab.pick_fd rfl (by first | (with_reducible assumption) | (with_reducible rfl) | (with_reducible exact (not_not_intro rfl)) | omega) rfl) rfl ?_)))) | (refine Tr.guard_s0 rfl rfl rfl (by first | (with_reducible rfl) | (with_reducible assumption) | (with_reducible exact Bool.not_true) | (with_reducible exact Bool.not_false)) rfl rfl ?_) | ((refine Tr.guard_y rfl rfl rfl (by first | (with_reducible assumption) | (with_reducible rfl) | (with_reducible exact (not_not_intro rfl)) | omega) ?_); (first | (refine xmQ (z := ?_)) | ((with_reducible refine Knd.pick ?_); (refine Exec.stab rfl (Stab.pick_t rfl (by first | (with_reducible rfl) | (with_reducible assumption) | (with_reducible exact Bool.not_true) | (with_reducible exact Bool.not_false)) rfl) rfl ?_)) | ((with_reducible refine Knd.unOp ?_); (refine Exec.stab rfl (Stab.not rfl) rfl ?_)))) | ((refine Tr.guard_y' rfl rfl rfl (by first | (with_reducible assumption) | (with_reducible rfl) | (with_reducible exact (not_not_intro rfl)) | omega) ?_); (first | (refine xmQ (z := ?_)) | (refine xiQ (z := ?_)))) | (with_reducible refine Tr.ret ?_)))
        (refine dnQ (hL := by exact ⟨[_, _, _, _], rfl⟩) (k := ⟨rfl, ?_⟩))
        rfl
      · (repeat (first | ((with_reducible refine Tr.step rfl ?_); (first | (refine xmQ (z := ?_)) | (refine xaQ (z := ?_)) | (refine xiQ (z := ?_)) | ((with_reducible refine Knd.pick ?_); (first | (refine Exec.stab rfl (Stab.pick_t rfl (by first | (with_reducible rfl) | (with_reducible assumption) | (with_reducible exact Bool.not_true) | (with_reducible exact Bool.not_false)) rfl) rfl ?_) | (refine Exec.stab rfl (Stab.pick_td rfl (by first | (with_reducible assumption) | (with_reducible rfl) | (with_reducible exact (not_not_intro rfl)) | omega) rfl) rfl ?_))) | ((with_reducible refine Knd.extract ?_); (refine Exec.stab rfl (Stab.extract rfl rfl) rfl ?_)))) | (with_reducible first | apply Tr.next | apply Tr.seq | apply Tr.region | apply Tr.nil) | ((refine Tr.guard_l rfl rfl rfl (by first | (with_reducible rfl) | (with_reducible assumption) | (with_reducible exact Bool.not_true) | (with_reducible exact Bool.not_false)) ?_); (first | (refine xmQ (z := ?_)) | (refine xiQ (z := ?_)) | ((with_reducible refine Knd.pick ?_); (refine Exec.stab rfl (Stab.pick_td rfl (by first | (with_reducible assumption) | (with_reducible rfl) | (with_reducible exact (not_not_intro rfl)) | omega) rfl) rfl ?_)))) | (refine Tr.guard_s0 rfl rfl rfl (by first | (with_reducible rfl) | (with_reducible assumption) | (with_reducible exact Bool.not_true) | (with_reducible exact Bool.not_false)) rfl rfl ?_) | ((refine Tr.guard_y rfl rfl rfl (by first | (with_reducible assumption) | (with_reducible rfl) | (with_reducible exact (not_not_intro rfl)) | omega) ?_); (first | (refine xmQ (z := ?_)) | ((with_reducible refine Knd.pick ?_); (refine Exec.stab rfl (Stab.pick_t rfl (by first | (with_reducible rfl) | (with_reducible assumption) | (with_reducible exact Bool.not_true) | (with_reducible exact Bool.not_false)) rfl) rfl ?_)) | ((with_reducible refine Knd.unOp ?_); (refine Exec.stab rfl (Stab.not rfl) rfl ?_)))) | (refine Tr.guard_n' rfl rfl rfl (by first | (with_reducible assumption) | (with_reducible rfl) | (with_reducible exact (not_not_intro rfl)) | omega) rfl rfl ?_) | (with_reducible refine Tr.ret ?_)))
        (refine dnQ (hL := by exact ⟨[_, _, _, _], rfl⟩) (k := ⟨rfl, ?_⟩))
        rfl
  · have hq2t := hq12 rfl
    subst hq2t
    by_cases h0 : e1 = 0
    · have h20 := he12 h0
      subst h0 h20
      (repeat (first | ((with_reducible refine Tr.step rfl ?_); (first | (refine xmQ (z := ?_)) | (refine xaQ (z := ?_)) | (refine xiQ (z := ?_)) | ((with_reducible refine Knd.pick ?_); (first | (refine Exec.stab rfl (Stab.pick_t rfl (by first | (with_reducible rfl) | (with_reducible assumption) | (with_reducible exact Bool.not_true) | (with_reducible exact Bool.not_false)) rfl) rfl ?_) | (refine Exec.stab rfl (Stab.pick_td rfl (by first | (with_reducible assumption) | (with_reducible rfl) | (with_reducible exact (not_not_intro rfl)) | omega) rfl) rfl ?_))) | ((with_reducible refine Knd.extract ?_); (refine Exec.stab rfl (Stab.extract rfl rfl) rfl ?_)))) | (with_reducible first | apply Tr.next | apply Tr.seq | apply Tr.region | apply Tr.nil) | ((refine Tr.guard_l rfl rfl rfl (by first | (with_reducible rfl) | (with_reducible assumption) | (with_reducible exact Bool.not_true) | (with_reducible exact Bool.not_false)) ?_); (first | (refine xmQ (z := ?_)) | (refine xiQ (z := ?_)) | ((with_reducible refine Knd.pick ?_); (refine Exec.stab rfl (Stab.pick_fd rfl (by first | (with_reducible assumption) | (with_reducible rfl) | (with_reducible exact (not_not_intro rfl)) | omega) rfl) rfl ?_)))) | ((refine Tr.guard_y rfl rfl rfl (by first | (with_reducible assumption) | (with_reducible rfl) | (with_reducible exact (not_not_intro rfl)) | omega) ?_); (first | (refine xmQ (z := ?_)) | ((with_reducible refine Knd.pick ?_); (refine Exec.stab rfl (Stab.pick_f rfl (by first | (with_reducible rfl) | (with_reducible assumption) | (with_reducible exact Bool.not_true) | (with_reducible exact Bool.not_false)) rfl) rfl ?_)) | ((with_reducible refine Knd.unOp ?_); (refine Exec.stab rfl (Stab.not rfl) rfl ?_)))) | ((refine Tr.guard_y' rfl rfl rfl (by first | (with_reducible assumption) | (with_reducible rfl) | (with_reducible exact (not_not_intro rfl)) | omega) ?_); (first | (refine xmQ (z := ?_)) | (refine xiQ (z := ?_)))) | (with_reducible refine Tr.ret ?_)))
      (refine dnQ (hL := by exact ⟨[_, _, _, _], rfl⟩) (k := ⟨rfl, ?_⟩))
      rfl
    · (repeat (first | ((with_reducible refine Tr.step rfl ?_); (first | (refine xmQ (z := ?_)) | (refine xaQ (z := ?_)) | (refine xiQ (z := ?_)) | ((with_reducible refine Knd.pick ?_); (first | (refine Exec.stab rfl (Stab.pick_t rfl (by first | (with_reducible rfl) | (with_reducible assumption) | (with_reducible exact Bool.not_true) | (with_reducible exact Bool.not_false)) rfl) rfl ?_) | (refine Exec.stab rfl (Stab.pick_td rfl (by first | (with_reducible assumption) | (with_reducible rfl) | (with_reducible exact (not_not_intro rfl)) | omega) rfl) rfl ?_))) | ((with_reducible refine Knd.extract ?_); (refine Exec.stab rfl (Stab.extract rfl rfl) rfl ?_)))) | (with_reducible first | apply Tr.next | apply Tr.seq | apply Tr.region | apply Tr.nil) | ((refine Tr.guard_l rfl rfl rfl (by first | (with_reducible rfl) | (with_reducible assumption) | (with_reducible exact Bool.not_true) | (with_reducible exact Bool.not_false)) ?_); (first | (refine xmQ (z := ?_)) | (refine xiQ (z := ?_)) | ((with_reducible refine Knd.pick ?_); (refine Exec.stab rfl (Stab.pick_td rfl (by first | (with_reducible assumption) | (with_reducible rfl) | (with_reducible exact (not_not_intro rfl)) | omega) rfl) rfl ?_)))) | ((refine Tr.guard_y rfl rfl rfl (by first | (with_reducible assumption) | (with_reducible rfl) | (with_reducible exact (not_not_intro rfl)) | omega) ?_); (first | (refine xmQ (z := ?_)) | ((with_reducible refine Knd.pick ?_); (refine Exec.stab rfl (Stab.pick_f rfl (by first | (with_reducible rfl) | (with_reducible assumption) | (with_reducible exact Bool.not_true) | (with_reducible exact Bool.not_false)) rfl) rfl ?_)) | ((with_reducible refine Knd.unOp ?_); (refine Exec.stab rfl (Stab.not rfl) rfl ?_)))) | (refine Tr.guard_n' rfl rfl rfl (by first | (with_reducible assumption) | (with_reducible rfl) | (with_reducible exact (not_not_intro rfl)) | omega) rfl rfl ?_) | (with_reducible refine Tr.ret ?_)))
      (refine dnQ (hL := by exact ⟨[_, _, _, _], rfl⟩) (k := ⟨rfl, ?_⟩))
      rfl
end Go.Proofs.Ytlifjajcmnkhfaa

/-
  Refusals: the row of RefusalsMore.
  Conditions: none.
-/
namespace Go.Proofs.Ytlifjajcmnkhfaa
open Go Bf
open Go.ChangeShapes Go.WideShapes Go.ChangeAt Go.RowKit
set_option maxRecDepth 100000 in
theorem morelaw_lifted (os : Os) (started : os.Started) (H : Type) (enc : TypeId × Value → H) :
    ReturnsInHanded {} Try.checked os 5 .any (Rows.refusalsMoreSpec.pre6 enc Try.prog Try.f5 Rows.refusalsMoreRow.domain false) (Rows.refusalsMoreSpec.post enc Try.prog Try.f5 false true false false) :=
  lift_true (C := Try.checked) (ts := [38, 44, 46, 32, 3]) (tb := 4) started ownT' (by kernel_rfl) Try.func5
    (ChangeSpec.witness6 (enc := enc) (C := Try.checked) false ⟨#[], #[.agg #[.slice none 0 0, .slice none 0 0, .slice none 0 0, .slice none 0 0, .slice none 0 0, .slice none 0 0, .slice none 0 0, .slice none 0 0, .slice none 0 0, .slice none 0 0, .slice none 0 0], .agg #[.int .i64 0, .slice none 0 0, .slice none 0 0, .slice none 0 0, .slice none 0 0], .agg #[.int .i64 0, .int .i64 0, .int .i64 0, .int .i64 0, .int .i64 0, .int .i64 0], .slice none 0 0, .int .i64 0], []⟩ 8 (by kernel_rfl) (by kernel_rfl) (by kernel_rfl) (by kernel_rfl))
    (by rw [Try.params5]) laidT' (by kernel_rfl) rfl (fun ds h => match ds, h with | [_, _, _, _, _], _ => rfl) rfl Try.underlying4
    (fun W base vs hl ha => by
      obtain ⟨v0, v1, v2, v3, v4, rfl⟩ := len5 hl
      obtain ⟨ws, w, rfl, hw⟩ := arg_world (ha 0 38 v0 rfl rfl)
      obtain ⟨k, hk⟩ := arg_book (ha 1 44 v1 rfl rfl)
      obtain ⟨r, rfl, hr⟩ := arg_req (ha 2 46 v2 rfl rfl)
      obtain ⟨l, A, c, rfl, hl3⟩ := arg_ints (ha 3 32 v3 rfl rfl)
      obtain ⟨y, rfl, hy⟩ := arg_int (ha 4 3 v4 rfl rfl)
      exact more_fn _ ws w hw v1 k hk r hr A c l hl3 y hy)
theorem refusalsMore_holds : Rows.RefusalsMoreSaid :=
  OpenClaim.holds_of_wide 5 Try.f5 rfl rfl rfl rfl rfl rfl rfl ⟨rfl, rfl, rfl, rfl, rfl⟩ rfl rfl rfl rfl rfl (by kernel_rfl) Try.func5 (by kernel_rfl)
    (of_decide_eq_true (by kernel_rfl)) (by unfold Func.isWrapper; first | (rw [if_pos (by decide +kernel)]; kernel_rfl) | (rw [if_neg (by decide +kernel)]; exact ⟨rfl, rfl⟩))
    (fun os started H enc _ => morelaw_lifted os started H enc)
end Go.Proofs.Ytlifjajcmnkhfaa

