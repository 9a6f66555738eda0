/-
  Frames: the tied card of FramesPackSpec.
  Conditions: none.
-/
import Derived.Test.YtghjhdbmkilakaaGreatDoorWBfCut
import Derived.Test.YtghjhdbmkilakaaGreatDoorWBfUnd
import Derived.Test.YtghjhdbmkilakaaGreatDoorWBfLaid
import Derived.Test.YtghjhdbmkilakaaGreatDoorRows
import Derived.ProofKit
import Derived.Test.YtghjhdbmkilakaaGreatDoorTie
import Derived.Test.YtghjhdbmkilakaaGreatDoorCards
import Derived.SevenTiedAt
import Derived.Test.YtghjhdbmkilakaaGreatDoorWXs
import Derived.Test.YtghjhdbmkilakaaGreatDoorWc
/-
  Frames: the message that the reference makes of a value.
  Conditions: none.
-/
namespace Go.Proofs.YtghjhdbmkilakaaGreatDoor
open Go Bf
attribute [local irreducible] Tr Exec Stab HasTy Go.Addr.add IntKind.wrap
attribute [local irreducible] intsF
/-- what is read of an element of a value's list -/
theorem RVals.at {M : Mem} {A : Option Addr} {n c : Nat} {l : List Val} (h : RVals M (.slice A n c) l) {i : Nat} {x : Val} (hx : l[i]? = some x) : A.isSome = true ∧ ∃ B k, At M ((A.getD default).add (i * 4)) [.int .i64 x.k, .int .i64 x.n, .string ⟨x.s.toArray⟩, .slice B x.l.length k] ∧ At M (((A.getD default).add (i * 4)).add 1) [.int .i64 x.n, .string ⟨x.s.toArray⟩, .slice B x.l.length k] ∧ At M (((A.getD default).add (i * 4)).add 2) [.string ⟨x.s.toArray⟩, .slice B x.l.length k] ∧ At M (((A.getD default).add (i * 4)).add 3) [.slice B x.l.length k] ∧ RVals M (.slice B x.l.length k) x.l ∧ RV M (.agg #[.int .i64 x.k, .int .i64 x.n, .string ⟨x.s.toArray⟩, .slice B x.l.length k]) x := by
  obtain ⟨hA, ch, hat, hx5⟩ := h.elem hx
  have h0 := hx5
  obtain ⟨B, k, rfl, hl, -⟩ := hx5.open_
  exact ⟨hA, B, k, hat, hat.drop 1, hat.drop 2, hat.drop 3, hl, ⟨_, rfl, h0⟩⟩
theorem take_set {l : List UInt8} {j : Nat} {z : UInt8} (h : l[j]? = some z) (hl : l.length = 32) (hj : j < 32) : (l.take j ++ List.replicate (32 - j) 0).set j z = l.take (j + 1) ++ List.replicate (32 - (j + 1)) 0 := by
  have e : 32 - j = (32 - (j + 1)) + 1 := by omega
  have ht : (l.take j).length = j := by rw [List.length_take]; omega
  rw [e, List.replicate_succ, List.set_append_right _ _ (by omega), ht, Nat.sub_self, List.set_cons_zero, List.take_add_one, h, List.append_assoc]
  rfl
theorem drop_at {α : Type} {l : List α} {i : Nat} {x : α} (h : l[i]? = some x) : l.drop i = x :: l.drop (i + 1) := by
  obtain ⟨hi, rfl⟩ := List.getElem?_eq_some_iff.1 h
  exact List.drop_eq_getElem_cons hi
set_option maxHeartbeats 8000000 in
theorem rmessage_fn (M : Mem) (k : Int) (hk : -9223372036854775808 ≤ k ∧ k ≤ 9223372036854775807) (v : Val) (r : Value) (h : RV M r v) (hs : SmallV 1000000 v) :
    Fn0 Tryz.prog 28 [.int .i64 k, r] M (fun r M' => ∃ u : List Value, r = .agg u.toArray ∧ RMsg M' u (refM k v)) := by
  have hW := refM_W k (show Ok64 v from by obtain ⟨cs, -, h2⟩ := h; exact h2.ok64)
  obtain ⟨A, c, rfl, hR, hS, -⟩ := h.open_
  have hl := hs.len
  refine Fn.intro Tryz.func28 rfl rfl Tryz.ntmps28 rfl fun E F => ?_
  (repeat (first | ((with_reducible refine Tr.step rfl ?_); (first | (refine xmQ (z := ?_)) | (refine xlQ (z := ?_)) | (refine xfQ (z := ?_)) | (refine xnQ (z := ?_)) | (refine xiQ (z := ?_)) | (refine xWQ (z := ?_)) | ((with_reducible refine Knd.box ?_); (refine Exec.box rfl rfl (fun b => ?_))) | ((with_reducible refine Knd.alloc ?_); (refine Exec.alloc (tysOk.get rfl) rfl rfl (fun b => ?_))) | ((with_reducible refine Knd.build ?_); (refine Exec.stab rfl (Stab.build tysOk rfl rfl rfl rfl (by repeat (first | exact BuildP.nil | ((apply BuildP.one); (rfl); (rfl); (first | rfl | assumption); (repeat (first | exact SetL.z | apply SetL.s)))))) rfl ?_)))) | (with_reducible first | apply Tr.next | apply Tr.seq | apply Tr.region | apply Tr.nil)))
  generalize b = b5
  rename_i b3 b4
  refine Tr.cells (b := b5) (cs' := (.int .i64 k :: .int .i64 0 :: .int .i64 0 :: .int .i64 0 :: .int .i64 0 :: .int .i64 0 :: .int .i64 0 :: .int .i64 0 :: .slice none 0 0 :: .slice none 0 0 :: .slice none 0 0 :: byteV (List.replicate 32 0))) (by repeat (first | exact Upd.here | apply Upd.there)) rfl ?_
  refine Tr.cells (b := b4) (cs' := (.int .i64 0 :: .int .i64 0 :: .int .i64 0 :: .int .i64 0 :: .int .i64 0 :: .int .i64 0 :: .int .i64 0 :: .int .i64 0 :: .slice none 0 0 :: .slice none 0 0 :: .slice none 0 0 :: byteV (List.replicate 32 0))) (by repeat (first | exact Upd.here | apply Upd.there)) rfl ?_
  have hz32 : (byteV (List.replicate 32 0)).length = 32 := by simp
  refine Tr.less [(16, .bool (decide ((v.l.length : Int) ≠ 11))), (5, .pointer (some ⟨b5, 0, none⟩)), (4, .pointer (some ⟨b4, 0, none⟩)), (3, .pointer (some ⟨b3, 0, none⟩))] _ (by repeat (first | exact SubFr.nil | refine SubFr.cons rfl ?_)) (by repeat (first | exact DropL.refl | apply DropL.skip)) ?_
  by_cases h11 : v.l.length = 11
  rotate_left
  · rw [refM_not h11] at hW ⊢
    (repeat (first | ((with_reducible refine Tr.step rfl ?_); (first | (refine xwQ (z := ?_)) | ((with_reducible refine Knd.store ?_); (refine Exec.storeW rfl rfl (tysOk.get rfl) (by repeat (first | exact Upd.here | apply Upd.there)) rfl rfl (by repeat (first | exact AllOne.bytes _ | refine AllOne.cons (by first | rfl | assumption) ?_)) ?_)))) | (with_reducible first | apply Tr.next | apply Tr.seq | apply Tr.region | apply Tr.nil | apply Tr.ret | apply Tr.then_ret) | (refine Tr.cond_t rfl (by first | (with_reducible assumption) | omega) ?_)))
    (refine Tr.done (by first | exact .inl rfl | exact .inr rfl) rfl (by repeat (first | exact RVs.nil | (apply RVs.cons; (exact RV.cellW (by rfl) (tysOk.get (by rfl)) (by rfl) (by repeat (first | exact Has.here | apply Has.there)) (by first | rfl | assumption))))) (by first | exact Mem.le.refl _ | assumption) (by exact ⟨[_, _, _], rfl⟩) ⟨rfl, ?_⟩)
    exact ⟨_, rfl, ⟨0, 0, 0, 0, 0, 0, 0, none, 0, none, 0, none, 0, rfl, rfl, SlOf.nil _ _ _, SlOf.nil _ _ _, SlOf.nil _ _ _⟩, hW, hk⟩
  obtain ⟨a0, a1, a2, a3, a4, a5, a6, va, vb, vc, vd, hv⟩ := eleven h11
  rw [refM_is hv] at hW ⊢
  have hmem : ∀ x ∈ v.l, SmallV 1000000 x := hs.mem
  rw [hv] at hmem
  obtain ⟨hA, B0, k0, at0, atn0, ats0, atl0, hS0, hV0⟩ := hS.at (i := 0) (x := a0) (by rw [hv]; rfl)
  obtain ⟨hA, B1, k1, at1, atn1, ats1, atl1, hS1, hV1⟩ := hS.at (i := 1) (x := a1) (by rw [hv]; rfl)
  obtain ⟨hA, B2, k2, at2, atn2, ats2, atl2, hS2, hV2⟩ := hS.at (i := 2) (x := a2) (by rw [hv]; rfl)
  obtain ⟨hA, B3, k3, at3, atn3, ats3, atl3, hS3, hV3⟩ := hS.at (i := 3) (x := a3) (by rw [hv]; rfl)
  obtain ⟨hA, B4, k4, at4, atn4, ats4, atl4, hS4, hV4⟩ := hS.at (i := 4) (x := a4) (by rw [hv]; rfl)
  obtain ⟨hA, B5, k5, at5, atn5, ats5, atl5, hS5, hV5⟩ := hS.at (i := 5) (x := a5) (by rw [hv]; rfl)
  obtain ⟨hA, B6, k6, at6, atn6, ats6, atl6, hS6, hV6⟩ := hS.at (i := 6) (x := a6) (by rw [hv]; rfl)
  obtain ⟨hA, B7, k7, at7, atn7, ats7, atl7, hS7, hV7⟩ := hS.at (i := 7) (x := va) (by rw [hv]; rfl)
  obtain ⟨hA, B8, k8, at8, atn8, ats8, atl8, hS8, hV8⟩ := hS.at (i := 8) (x := vb) (by rw [hv]; rfl)
  obtain ⟨hA, B9, k9, at9, atn9, ats9, atl9, hS9, hV9⟩ := hS.at (i := 9) (x := vc) (by rw [hv]; rfl)
  obtain ⟨hA, B10, k10, at10, atn10, ats10, atl10, hS10, hV10⟩ := hS.at (i := 10) (x := vd) (by rw [hv]; rfl)
  have hla := (hmem va (by simp)).len
  have hlb := (hmem vb (by simp)).len
  have hlc := (hmem vc (by simp)).len
  have hsc := (hmem vc (by simp)).mem
  clear at0 at1 at2 at3 at4 at5 at6 atn7 ats7 atl7 atn8 ats8 atl8 atn9 ats9 at9 atn10 atl10 at10 hV0 hV1 hV2 hV3 hV4 hV5 hV6 hS0 hS1 hS2 hS3 hS4 hS5 hS6 hS7 hS8 ats0 atl0 ats1 atl1 ats2 atl2 ats3 atl3 ats4 atl4 ats5 atl5 ats6 atl6 hR
  (repeat (first | ((with_reducible refine Tr.step rfl ?_); (first | ((with_reducible refine Knd.load ?_); (first | (refine xlQ (z := ?_)) | (refine xMQ (z := ?_)) | (refine Exec.stab rfl (Stab.loadMA rfl (tysOk.get rfl) rfl (by assumption) (by first | rfl | assumption)) rfl ?_))) | ((with_reducible refine Knd.fieldAddr ?_); (first | (refine xfQ (z := ?_)) | (refine Exec.stab rfl (Stab.fieldD rfl (tysOk.get rfl) rfl rfl (tysOk.get rfl) rfl) rfl ?_))) | (refine xSQ (z := ?_)) | (refine xxQ (z := ?_)))) | (with_reducible first | apply Tr.next | apply Tr.seq | apply Tr.region | apply Tr.nil | apply Tr.skip) | (refine Tr.cond_f rfl (by omega) ?_)))
  ((refine Tr.step rfl ?_)); refine Exec.call0 rfl (rnums_fn M va _ hV7 hla) rfl ?_
  rintro _ M1 hm1 ⟨A1, c1, rfl, i1⟩
  replace at8 := at8.mono hm1
  replace hV8 := hV8.mono hm1
  (repeat (first | ((with_reducible refine Tr.step rfl ?_); (first | ((with_reducible refine Knd.load ?_); (first | (refine xlQ (z := ?_)) | (refine Exec.stab rfl (Stab.loadMA rfl (tysOk.get rfl) rfl (by assumption) (by first | rfl | assumption)) rfl ?_))) | (refine xfQ (z := ?_)) | (refine xSQ (z := ?_)) | (refine xxQ (z := ?_)))) | (with_reducible first | apply Tr.next | apply Tr.seq | apply Tr.region | apply Tr.nil)))
  ((refine Tr.step rfl ?_)); refine Exec.call0 rfl (rnums_fn M1 vb _ hV8 hlb) rfl ?_
  rintro _ M2 hm2 ⟨A2, c2, rfl, i2⟩
  replace i1 := i1.mono RI.mono hm2
  have hm02 := hm1.trans hm2
  replace atl9 := atl9.mono hm02
  replace ats10 := ats10.mono hm02
  replace hS9 := SlOf.mono RVal.mono' hS9 hm02
  clear at7 at8 hV7 hV8 atn0 atn1 atn2 atn3 atn4 atn5 atn6
  (repeat (first | ((with_reducible refine Tr.step rfl ?_); (first | (refine xaQ (z := ?_)) | (refine xfQ (z := ?_)) | (refine xSQ (z := ?_)))) | (with_reducible first | apply Tr.next | apply Tr.seq | apply Tr.region | apply Tr.nil | apply Tr.block)))
  refine Tr.own_nil 49 2 ?_
  refine Tr.loop (α := Nat × List Rel × Option Addr × Nat × List Value × Mem) (fun y => ⟨153, [(6, .int .i64 (y.1 : Int)), (5, .pointer (some ⟨b5, 0, none⟩)), (4, .pointer (some ⟨b4, 0, none⟩)), (3, .pointer (some ⟨b3, 0, none⟩))], [], y.2.2.2.2.2, ownS 49 2 y.2.2.1 y.2.1.length y.2.2.2.1 y.2.2.2.2.1 :: box b5 27 (.int .i64 k :: .int .i64 a0.n :: .int .i64 a1.n :: .int .i64 a2.n :: .int .i64 a3.n :: .int .i64 a4.n :: .int .i64 a5.n :: .int .i64 a6.n :: .slice A1 (intsF va).length c1 :: .slice A2 (intsF vb).length c2 :: .slice y.2.2.1 y.2.1.length y.2.2.2.1 :: byteV (List.replicate 32 0)) :: box b4 27 (.int .i64 0 :: .int .i64 0 :: .int .i64 0 :: .int .i64 0 :: .int .i64 0 :: .int .i64 0 :: .int .i64 0 :: .int .i64 0 :: .slice none 0 0 :: .slice none 0 0 :: .slice none 0 0 :: byteV (List.replicate 32 0)) :: box b3 53 [.int .i64 v.k, .int .i64 v.n, .string ⟨v.s.toArray⟩, .slice A v.l.length c] :: ([] ++ F)⟩)
    (fun y => y.1 ≤ vc.l.length ∧ y.2.1.length = y.1 ∧ y.2.2.2.1 ≤ 9223372036854775807 ∧ Elems 2 RRel y.2.2.2.2.2 y.2.2.2.2.1 y.2.1 ∧ relsF vc.l = (y.2.1 ++ (relsF (vc.l.drop y.1)).1, (relsF (vc.l.drop y.1)).2) ∧ Mem.le M2 y.2.2.2.2.2) (fun y => vc.l.length - y.1) (0, [], none, 0, [], M2) ⟨Nat.zero_le _, rfl, Nat.zero_le _, Elems.nil, rfl, Mem.le.refl _⟩ hsQ (fun y hy => ?_)
  obtain ⟨i, ys, R, rc, cs, M3⟩ := y
  obtain ⟨hi, hyl, hrc, hE, hrel, hm3⟩ := hy
  dsimp only at hi hyl hrc hE hrel hm3 ⊢
  replace i1 := i1.mono RI.mono hm3
  replace i2 := i2.mono RI.mono hm3
  replace atl9 := atl9.mono hm3
  replace ats10 := ats10.mono hm3
  replace hS9 := SlOf.mono RVal.mono' hS9 hm3
  have hm03 := hm02.trans hm3
  clear hm02 hm1 hm2
  by_cases hlt : i < vc.l.length
  rotate_left
  · have e : i = vc.l.length := by omega
    rw [e, List.drop_length] at hrel
    have hrel2 : relsF vc.l = (ys, true) := by rw [hrel]; simp [relsF]
    rw [hrel2] at hW ⊢
    simp only [if_true] at hW ⊢
    clear hrel hrel2
    refine pbQ (r := ownS 49 2 R _ _ _) (k := fun M4 hm4 hok4 => ?_)
    have hmm := hm03.trans hm4
    replace ats10 := ats10.mono hm4
    have hrs : RRels M4 (.slice R ys.length rc) ys := SlOf.ofOwn hok4 rfl hrc (hE.mono RRel.mono hm4)
    have hms := (hmem vd (by simp)).len
    by_cases h32 : vd.s.length = 32
    rotate_left
    · rw [show sealF vd = List.replicate 32 0 by rw [sealF, if_neg h32]] at hW ⊢
      replace atl9 := atl9.mono hm4
      (repeat (first | ((with_reducible refine Tr.step rfl ?_); (first | (refine xmQ (z := ?_)) | ((with_reducible refine Knd.load ?_); (first | (refine xlQ (z := ?_)) | (refine xwQ (z := ?_)) | (refine xMQ (z := ?_)))) | ((with_reducible refine Knd.fieldAddr ?_); (first | (refine xfQ (z := ?_)) | (refine Exec.stab rfl (Stab.fieldD rfl (tysOk.get rfl) rfl rfl (tysOk.get rfl) rfl) rfl ?_))) | ((with_reducible refine Knd.len ?_); (first | (refine xnQ (z := ?_)) | (refine Exec.stab rfl (Stab.lensL rfl (tysOk.get rfl) rfl) rfl ?_))) | (refine xiQ (z := ?_)) | ((with_reducible refine Knd.store ?_); (refine Exec.storeW rfl rfl (tysOk.get rfl) (by repeat (first | exact Upd.here | apply Upd.there)) rfl rfl (by repeat (first | exact AllOne.bytes _ | refine AllOne.cons (by first | rfl | assumption) ?_)) ?_)) | (refine xxQ (z := ?_)))) | (with_reducible first | apply Tr.next | apply Tr.seq | apply Tr.region | apply Tr.nil | apply Tr.skip | apply Tr.exit | apply Tr.ret | apply Tr.then_exit) | ((with_reducible refine Tr.in_exit ?_ ?_); (exact rfl)) | (refine Tr.cond_f rfl (by first | (with_reducible assumption) | omega) ?_)))
      (refine Tr.done (by first | exact .inl rfl | exact .inr rfl) rfl (by repeat (first | exact RVs.nil | (apply RVs.cons; (exact RV.cellW (by rfl) (tysOk.get (by rfl)) (by rfl) (by repeat (first | exact Has.here | apply Has.there)) (by first | rfl | assumption))))) (by first | exact Mem.le.refl _ | assumption) (by exact ⟨[_, _, _], rfl⟩) ⟨rfl, ?_⟩)
      exact ⟨_, rfl, ⟨_, _, _, _, _, _, _, A1, c1, A2, c2, R, rc, rfl, rfl, i1.mono RI.mono hm4, i2.mono RI.mono hm4, hrs⟩, hW, hk⟩
    rw [show sealF vd = vd.s by rw [sealF, if_pos h32]] at hW ⊢
    replace atl9 := atl9.mono hm4
    (repeat (first | ((with_reducible refine Tr.step rfl ?_); (first | (refine xmQ (z := ?_)) | (refine xaQ (z := ?_)) | ((with_reducible refine Knd.load ?_); (first | (refine xlQ (z := ?_)) | (refine xMQ (z := ?_)))) | ((with_reducible refine Knd.fieldAddr ?_); (first | (refine xfQ (z := ?_)) | (refine Exec.stab rfl (Stab.fieldD rfl (tysOk.get rfl) rfl rfl (tysOk.get rfl) rfl) rfl ?_))) | ((with_reducible refine Knd.len ?_); (first | (refine xnQ (z := ?_)) | (refine Exec.stab rfl (Stab.lensL rfl (tysOk.get rfl) rfl) rfl ?_))) | (refine xiQ (z := ?_)) | (refine xxQ (z := ?_)))) | (with_reducible first | apply Tr.next | apply Tr.seq | apply Tr.region | apply Tr.nil | apply Tr.block | apply Tr.exit | apply Tr.then_exit) | ((with_reducible refine Tr.in_exit ?_ ?_); (exact rfl)) | (refine Tr.cond_t rfl (by first | (with_reducible assumption) | omega) ?_) | (refine Tr.cond_f rfl (by first | (with_reducible assumption) | omega) ?_)))
    refine Tr.loop (α := Nat) (fun j => ⟨153, [(10, .int .i64 (j : Int)), (5, .pointer (some ⟨b5, 0, none⟩)), (4, .pointer (some ⟨b4, 0, none⟩)), (3, .pointer (some ⟨b3, 0, none⟩))], [], M4, box b5 27 (.int .i64 k :: .int .i64 a0.n :: .int .i64 a1.n :: .int .i64 a2.n :: .int .i64 a3.n :: .int .i64 a4.n :: .int .i64 a5.n :: .int .i64 a6.n :: .slice A1 (intsF va).length c1 :: .slice A2 (intsF vb).length c2 :: .slice R ys.length rc :: byteV (vd.s.take j ++ List.replicate (32 - j) 0)) :: box b4 27 (.int .i64 0 :: .int .i64 0 :: .int .i64 0 :: .int .i64 0 :: .int .i64 0 :: .int .i64 0 :: .int .i64 0 :: .int .i64 0 :: .slice none 0 0 :: .slice none 0 0 :: .slice none 0 0 :: byteV (List.replicate 32 0)) :: box b3 53 [.int .i64 v.k, .int .i64 v.n, .string ⟨v.s.toArray⟩, .slice A v.l.length c] :: ([] ++ F)⟩) (fun j => j ≤ 32) (fun j => 32 - j) 0 (Nat.zero_le _) hsQ (fun j hj => ?_)
    have hbl : (byteV (vd.s.take j ++ List.replicate (32 - j) 0)).length = 32 := by rw [byteV_length, List.length_append, List.length_take, List.length_replicate]; omega
    by_cases hlj : j < 32
    · obtain ⟨z, hz⟩ := get_of_lt (xs := vd.s) (i := j) (by omega)
      have hz8 := z.toNat_lt
      have hz2 : (⟨vd.s.toArray⟩ : ByteArray).data.toList[((j : Int)).toNat]? = some z := by simpa using hz
      (repeat (first | ((with_reducible refine Tr.step rfl ?_); (first | (refine xmQ (z := ?_)) | ((with_reducible refine Knd.load ?_); (first | (refine xlQ (z := ?_)) | (refine xMQ (z := ?_)))) | ((with_reducible refine Knd.fieldAddr ?_); (first | (refine xfQ (z := ?_)) | (refine Exec.stab rfl (Stab.fieldD rfl (tysOk.get rfl) rfl rfl (tysOk.get rfl) rfl) rfl ?_))) | (refine xiQ (z := ?_)) | (refine xxQ (z := ?_)))) | (with_reducible first | apply Tr.next | apply Tr.seq | apply Tr.region | apply Tr.nil | apply Tr.skip | apply Tr.block) | (refine Tr.cond_t rfl (by first | (with_reducible assumption) | omega) ?_)))
      ((refine Tr.step rfl ?_))
      refine Exec.stab rfl (Stab.indexs (c := z) rfl rfl (tysOk.get rfl) rfl (by omega) hz2) rfl ?_
      have hcl : (.int .i64 k :: .int .i64 a0.n :: .int .i64 a1.n :: .int .i64 a2.n :: .int .i64 a3.n :: .int .i64 a4.n :: .int .i64 a5.n :: .int .i64 a6.n :: .slice A1 (intsF va).length c1 :: .slice A2 (intsF vb).length c2 :: .slice R ys.length rc :: byteV (vd.s.take j ++ List.replicate (32 - j) 0) : List Value).length = 43 := by simp only [List.length_cons, hbl]
      have hset : List.set (.int .i64 k :: .int .i64 a0.n :: .int .i64 a1.n :: .int .i64 a2.n :: .int .i64 a3.n :: .int .i64 a4.n :: .int .i64 a5.n :: .int .i64 a6.n :: .slice A1 (intsF va).length c1 :: .slice A2 (intsF vb).length c2 :: .slice R ys.length rc :: byteV (vd.s.take j ++ List.replicate (32 - j) 0)) (11 + ((j : Int)).toNat) (.int .u8 (z.toNat : Int)) = (.int .i64 k :: .int .i64 a0.n :: .int .i64 a1.n :: .int .i64 a2.n :: .int .i64 a3.n :: .int .i64 a4.n :: .int .i64 a5.n :: .int .i64 a6.n :: .slice A1 (intsF va).length c1 :: .slice A2 (intsF vb).length c2 :: .slice R ys.length rc :: byteV (vd.s.take (j + 1) ++ List.replicate (32 - (j + 1)) 0)) := by
        rw [show 11 + ((j : Int)).toNat = j + 11 by omega]
        simp only [List.set_cons_succ]
        rw [byteV_set, take_set hz h32 hlj]
      (repeat (first | ((with_reducible refine Tr.step rfl ?_); (first | (refine xmQ (z := ?_)) | (refine xaQ (z := ?_)) | (refine xfQ (z := ?_)) | (refine xdQ (z := ?_)) | ((with_reducible refine Knd.store ?_); (refine Exec.storeS rfl rfl (tysOk.get rfl) rfl (by first | rfl | assumption) (by repeat (first | exact Upd.here | apply Upd.there)) (by omega) ?_)) | ((with_reducible refine Knd.indexAddr ?_); (refine Exec.stab rfl (Stab.indexArrB rfl rfl (tysOk.get rfl) rfl (tysOk.get rfl) rfl (by omega) (by omega)) rfl ?_)))) | (with_reducible first | apply Tr.next | apply Tr.region | apply Tr.nil | apply Tr.in_normal)))
      rw [hset]
      refine Tr.again (j + 1) (by omega) (by omega) hsQ
    have e : vd.s.take j ++ List.replicate (32 - j) 0 = vd.s := by
      rw [List.take_of_length_le (by omega), show 32 - j = 0 by omega]
      simp
    rw [e]
    have hcl : (.int .i64 k :: .int .i64 a0.n :: .int .i64 a1.n :: .int .i64 a2.n :: .int .i64 a3.n :: .int .i64 a4.n :: .int .i64 a5.n :: .int .i64 a6.n :: .slice A1 (intsF va).length c1 :: .slice A2 (intsF vb).length c2 :: .slice R ys.length rc :: byteV vd.s : List Value).length = 43 := by simp only [List.length_cons, byteV_length, h32]
    (repeat (first | ((with_reducible refine Tr.step rfl ?_); (first | (refine xmQ (z := ?_)) | ((with_reducible refine Knd.load ?_); (refine Exec.stab rfl (Stab.loadW rfl (tysOk.get rfl) rfl (by repeat (first | exact Has.here | apply Has.there)) (by assumption)) rfl ?_)) | (refine xiQ (z := ?_)) | ((with_reducible refine Knd.store ?_); (refine Exec.storeW rfl rfl (tysOk.get rfl) (by repeat (first | exact Upd.here | apply Upd.there)) (by first | rfl | assumption) (by first | rfl | assumption) (by exact (by repeat (first | exact AllOne.bytes _ | refine AllOne.cons (by first | rfl | assumption) ?_))) ?_)))) | (with_reducible first | apply Tr.next | apply Tr.seq | apply Tr.region | apply Tr.nil | apply Tr.exit | apply Tr.ret | apply Tr.then_exit) | ((with_reducible refine Tr.in_exit ?_ ?_); (exact rfl)) | (refine Tr.cond_f rfl (by first | (with_reducible assumption) | omega) ?_)))
    (refine Tr.done (by first | exact .inl rfl | exact .inr rfl) rfl (by repeat (first | exact RVs.nil | (apply RVs.cons; (exact RV.cellW (by rfl) (tysOk.get (by rfl)) (by rfl) (by repeat (first | exact Has.here | apply Has.there)) (by first | rfl | assumption))))) (by first | exact Mem.le.refl _ | assumption) (by exact ⟨[_, _, _], rfl⟩) ⟨rfl, ?_⟩)
    exact ⟨_, rfl, ⟨_, _, _, _, _, _, _, A1, c1, A2, c2, R, rc, rfl, rfl, i1.mono RI.mono hm4, i2.mono RI.mono hm4, hrs⟩, hW, hk⟩
  obtain ⟨x, hx⟩ := get_of_lt hlt
  have hdr : vc.l.drop i = x :: vc.l.drop (i + 1) := drop_at hx
  obtain ⟨hA9, Bx, kx, atx, -, -, -, hSx, hVx⟩ := RVals.at hS9 hx
  have hsx := hsc x (List.mem_of_getElem? hx)
  (repeat (first | ((with_reducible refine Tr.step rfl ?_); (first | (refine xmQ (z := ?_)) | ((with_reducible refine Knd.load ?_); (first | (refine xlQ (z := ?_)) | (refine xMQ (z := ?_)) | (refine Exec.stab rfl (Stab.loadMA rfl (tysOk.get rfl) rfl (by assumption) (by first | rfl | assumption)) rfl ?_))) | ((with_reducible refine Knd.fieldAddr ?_); (first | (refine xfQ (z := ?_)) | (refine Exec.stab rfl (Stab.fieldD rfl (tysOk.get rfl) rfl rfl (tysOk.get rfl) rfl) rfl ?_))) | (refine xnQ (z := ?_)) | (refine xiQ (z := ?_)) | (refine xWQ (z := ?_)) | ((with_reducible refine Knd.alloc ?_); (refine Exec.alloc (tysOk.get rfl) rfl rfl (fun b => ?_))) | (refine xxQ (z := ?_)))) | (with_reducible first | apply Tr.next | apply Tr.seq | apply Tr.region | apply Tr.nil | apply Tr.skip | apply Tr.block) | (refine Tr.cond_t rfl (by omega) ?_)))
  generalize b = b7
  by_cases h2 : x.l.length = 2
  rotate_left
  · rw [hdr, relsF_stop h2, List.append_nil] at hrel
    rw [hrel] at hW ⊢
    dsimp only at hW ⊢
    refine pbQ (r := ownS 49 2 R _ _ _) (k := fun M4 hm4 hok4 => ?_)
    have hmm := hm03.trans hm4
    (repeat (first | ((with_reducible refine Tr.step rfl ?_); (first | (refine xwQ (z := ?_)) | ((with_reducible refine Knd.store ?_); (refine Exec.storeW rfl rfl (tysOk.get rfl) (by repeat (first | exact Upd.here | apply Upd.there)) rfl rfl (by repeat (first | exact AllOne.bytes _ | refine AllOne.cons (by first | rfl | assumption) ?_)) ?_)))) | (with_reducible first | apply Tr.next | apply Tr.seq | apply Tr.region | apply Tr.nil | apply Tr.ret | apply Tr.then_ret | apply Tr.in_ret) | (refine Tr.cond_t rfl (by first | (with_reducible assumption) | omega) ?_)))
    (refine Tr.done (by first | exact .inl rfl | exact .inr rfl) rfl (by repeat (first | exact RVs.nil | (apply RVs.cons; (exact RV.cellW (by rfl) (tysOk.get (by rfl)) (by rfl) (by repeat (first | exact Has.here | apply Has.there)) (by first | rfl | assumption))))) (by first | exact Mem.le.refl _ | assumption) (by exact ⟨[_, _, _, _], rfl⟩) ⟨rfl, ?_⟩)
    exact ⟨_, rfl, ⟨_, _, _, _, _, _, _, A1, c1, A2, c2, R, rc, rfl, rfl, i1.mono RI.mono hm4, i2.mono RI.mono hm4, SlOf.ofOwn hok4 rfl hrc (hE.mono RRel.mono hm4)⟩, hW, hk⟩
  obtain ⟨p, q, hpq⟩ := two_of h2
  rw [hdr, relsF_step hpq] at hrel
  have hmx := hsx.mem
  rw [hpq] at hmx
  have hlp := (hmx p (by simp)).len
  have hlq := (hmx q (by simp)).len
  have hqm := (hmx q (by simp)).mem
  obtain ⟨hAx, Bp, kp, atp, -, -, -, -, hVp⟩ := RVals.at hSx (i := 0) (x := p) (by rw [hpq]; rfl)
  obtain ⟨-, Bq, kq, -, -, -, atq, hSq, -⟩ := RVals.at hSx (i := 1) (x := q) (by rw [hpq]; rfl)
  (repeat (first | ((with_reducible refine Tr.step rfl ?_); (first | ((with_reducible refine Knd.load ?_); (first | (refine xlQ (z := ?_)) | (refine Exec.stab rfl (Stab.loadMA rfl (tysOk.get rfl) rfl (by assumption) (by first | rfl | assumption)) rfl ?_))) | (refine xfQ (z := ?_)) | (refine xxQ (z := ?_)))) | (with_reducible first | apply Tr.next | apply Tr.seq | apply Tr.region | apply Tr.skip) | (refine Tr.cond_f rfl (by omega) ?_)))
  ((refine Tr.step rfl ?_)); refine Exec.call0 rfl (rnums_fn M3 p _ hVp hlp) rfl ?_
  rintro _ M4 hm4 ⟨A3, c3, rfl, i3⟩
  have hm04 := hm03.trans hm4
  have hm34 := hm3.trans hm4
  replace i1 := i1.mono RI.mono hm4
  replace i2 := i2.mono RI.mono hm4
  replace atl9 := atl9.mono hm4
  replace ats10 := ats10.mono hm4
  replace hS9 := SlOf.mono RVal.mono' hS9 hm4
  replace atq := atq.mono hm4
  replace hSq := SlOf.mono RVal.mono' hSq hm4
  replace hE := hE.mono RRel.mono hm4
  clear atp hVp hSx hVx atx hV9 hV10 hS10
  (repeat (first | ((with_reducible refine Tr.step rfl ?_); (first | (refine xaQ (z := ?_)) | (refine xWQ (z := ?_)) | ((with_reducible refine Knd.alloc ?_); (refine Exec.alloc (tysOk.get rfl) rfl rfl (fun b => ?_))) | ((with_reducible refine Knd.build ?_); (refine Exec.stab rfl (Stab.build tysOk rfl rfl rfl rfl (by repeat (first | exact BuildP.nil | ((apply BuildP.one); (rfl); (rfl); (first | rfl | assumption); (repeat (first | exact SetL.z | apply SetL.s)))))) rfl ?_)))) | (with_reducible first | apply Tr.next | apply Tr.seq | apply Tr.region | apply Tr.nil | apply Tr.block)))
  generalize b = b8
  refine Tr.own_nil 22 1 ?_
  refine Tr.loop (α := Nat × Option Addr × Nat × List Value × Mem) (fun y => ⟨153, [(9, .int .i64 (y.1 : Int)), (8, .pointer (some ⟨b8, 0, none⟩)), (7, .pointer (some ⟨b7, 0, none⟩)), (6, .int .i64 (i : Int)), (5, .pointer (some ⟨b5, 0, none⟩)), (4, .pointer (some ⟨b4, 0, none⟩)), (3, .pointer (some ⟨b3, 0, none⟩))], [], y.2.2.2.2, ownS 22 1 y.2.1 ((q.l.take y.1).map intsF).length y.2.2.1 y.2.2.2.1 :: box b8 49 [.slice A3 (intsF p).length c3, .slice y.2.1 ((q.l.take y.1).map intsF).length y.2.2.1] :: box b7 53 [.int .i64 x.k, .int .i64 x.n, .string ⟨x.s.toArray⟩, .slice Bx x.l.length kx] :: ownS 49 2 R ys.length rc cs :: box b5 27 (.int .i64 k :: .int .i64 a0.n :: .int .i64 a1.n :: .int .i64 a2.n :: .int .i64 a3.n :: .int .i64 a4.n :: .int .i64 a5.n :: .int .i64 a6.n :: .slice A1 (intsF va).length c1 :: .slice A2 (intsF vb).length c2 :: .slice R ys.length rc :: byteV (List.replicate 32 0)) :: box b4 27 (.int .i64 0 :: .int .i64 0 :: .int .i64 0 :: .int .i64 0 :: .int .i64 0 :: .int .i64 0 :: .int .i64 0 :: .int .i64 0 :: .slice none 0 0 :: .slice none 0 0 :: .slice none 0 0 :: byteV (List.replicate 32 0)) :: box b3 53 [.int .i64 v.k, .int .i64 v.n, .string ⟨v.s.toArray⟩, .slice A v.l.length c] :: ([] ++ F)⟩)
    (fun y => y.1 ≤ q.l.length ∧ y.2.2.1 ≤ 9223372036854775807 ∧ Elems 1 RRowI y.2.2.2.2 y.2.2.2.1 ((q.l.take y.1).map intsF) ∧ Mem.le M4 y.2.2.2.2) (fun y => q.l.length - y.1) (0, none, 0, [], M4) ⟨Nat.zero_le _, Nat.zero_le _, Elems.nil, Mem.le.refl _⟩ hsQ (fun y hy => ?_)
  obtain ⟨j, R2, rc2, cs2, M5⟩ := y
  obtain ⟨hj, hrc2, hE2, hm5⟩ := hy
  dsimp only at hj hrc2 hE2 hm5 ⊢
  have htl : ((q.l.take j).map intsF).length = j := by rw [List.length_map, List.length_take]; omega
  replace i1 := i1.mono RI.mono hm5
  replace i2 := i2.mono RI.mono hm5
  replace i3 := i3.mono RI.mono hm5
  replace atl9 := atl9.mono hm5
  replace ats10 := ats10.mono hm5
  replace hS9 := SlOf.mono RVal.mono' hS9 hm5
  replace atq := atq.mono hm5
  replace hSq := SlOf.mono RVal.mono' hSq hm5
  replace hE := hE.mono RRel.mono hm5
  by_cases hlj : j < q.l.length
  · obtain ⟨z, hz⟩ := get_of_lt hlj
    obtain ⟨hAq, Bz, kz, atz, -, -, -, -, hVz⟩ := RVals.at hSq hz
    have hlz := (hqm z (List.mem_of_getElem? hz)).len
    have hts : (q.l.take (j + 1)).map intsF = (q.l.take j).map intsF ++ [intsF z] := by rw [List.take_add_one, hz]; simp
    (repeat (first | ((with_reducible refine Tr.step rfl ?_); (first | (refine xmQ (z := ?_)) | ((with_reducible refine Knd.load ?_); (first | (refine xlQ (z := ?_)) | (refine xMQ (z := ?_)))) | ((with_reducible refine Knd.fieldAddr ?_); (first | (refine xfQ (z := ?_)) | (refine Exec.stab rfl (Stab.fieldD rfl (tysOk.get rfl) rfl rfl (tysOk.get rfl) rfl) rfl ?_))) | (refine xnQ (z := ?_)) | (refine xiQ (z := ?_)) | (refine xxQ (z := ?_)))) | (with_reducible first | apply Tr.next | apply Tr.seq | apply Tr.region | apply Tr.nil | apply Tr.skip | apply Tr.block) | (refine Tr.cond_t rfl (by first | (with_reducible assumption) | omega) ?_)))
    (((apply Tr.draw (box b8 49 [.slice A3 (intsF p).length c3, .slice R2 ((q.l.take j).map intsF).length rc2] :: _)); (kernel_rfl)); (refine tkQ 0 (s := by exact sfQ) (h := ?_)); (refine tkQ 2 (s := by exact sfQ) (h := ?_)); (refine tkQ 7 (s := by exact Stab.move rfl) (h := ?_)); (refine tkQ 1 (s := by exact slQ) (h := ?_)); (refine tkQ 3 (s := by exact slQ) (h := ?_)); (refine tkQ 4 (s := by exact sxQ) (h := ?_)); (refine tkQ 5 (s := by exact Stab.fieldD rfl (tysOk.get rfl) rfl rfl (tysOk.get rfl) rfl) (h := ?_)); (refine tkQ 6 (s := by exact sMQ) (h := ?_)); (refine tkQ 8 (s := by exact sxQ) (h := ?_)); (refine tkQ 9 (s := by exact Stab.loadMA rfl (tysOk.get rfl) rfl (by assumption) (by first | rfl | assumption)) (h := ?_)); (refine TrA.eff 10 rfl (by kernel_rfl) (by exact .inl rfl) ?_))
    refine Exec.call0 rfl (rnums_fn M5 z _ hVz hlz) rfl ?_
    rintro _ M6 hm6 ⟨A6, c6, rfl, i6⟩
    refine ⟨hm6, (by exact (Sub.mem (by repeat (first | exact Sub.refl | apply Sub.cons)))), ?_⟩
    ((refine TrA.eff 11 rfl (by kernel_rfl) (by exact .inl rfl) ?_); (((refine Knd.buildSlice ?_); ((refine Exec.buildSlice (tysOk.get rfl) rfl (tysOk.get rfl) rfl rfl rfl rfl rfl (by repeat (first | exact BuildP.nil | ((apply BuildP.one); (rfl); (rfl); (first | rfl | assumption); (repeat (first | exact SetL.z | apply SetL.s))))) rfl (fun b => ?_))))); (refine ⟨(by first | exact Mem.le.refl _ | assumption), (by exact (Sub.mem (by repeat (first | exact Sub.refl | apply Sub.cons)))), ?_⟩); (refine TrA.eff 12 rfl (by kernel_rfl) (by exact .inl rfl) ?_))
    refine Exec.append (A := R2) (news := [.slice A6 (intsF z).length c6]) rfl rfl (tysOk.get rfl) rfl (tysOk.get rfl) rfl rfl rfl rfl (by repeat (first | exact Del.here | apply Del.there)) (Src.box (by repeat (first | exact Has.here | apply Has.there))) rfl (by intro u hu; simp at hu; subst hu; rfl) (by omega) (by omega) rfl (fun R4 rc4 hrc4 => ?_)
    refine ⟨Mem.le.refl _, (by exact (Sub.mem (by repeat (first | exact Sub.refl | apply Sub.cons)))), ?_⟩
    ((refine tkQ 13 (s := by exact sfQ) (h := ?_)); (refine TrA.effD 14 rfl (by kernel_rfl) (by kernel_rfl) (by exact .inl rfl) ?_); (((refine Knd.store ?_); ((refine xSQ (z := ?_))))); (refine ⟨_, fun _ h => h, ?_⟩); (refine TrA.done (by kernel_rfl) ?_))
    refine gvQ (r := box _ 22 [_]) (k := ?_)
    rw [show ((q.l.take j).map intsF).length + 1 = ((q.l.take (j + 1)).map intsF).length by rw [hts, List.length_append, List.length_singleton]]
    (repeat (first | ((with_reducible refine Tr.step rfl ?_); (first | (refine xmQ (z := ?_)) | (refine xaQ (z := ?_)) | (refine xdQ (z := ?_)))) | (with_reducible first | apply Tr.next | apply Tr.region | apply Tr.nil | apply Tr.in_normal)))
    refine Tr.again (j + 1, R4, rc4, _, M6) ⟨by simp only; omega, hrc4, by simp only; rw [hts]; exact (hE2.mono RRowI.mono hm6).append (Elems.one rfl ⟨A6, c6, rfl, i6⟩), hm5.trans hm6⟩ (by simp only; omega) hsQ
  have e : j = q.l.length := by omega
  subst e
  rw [List.take_of_length_le (Nat.le_refl _)] at hE2 ⊢
  refine pbQ (r := ownS 22 1 R2 _ _ _) (k := fun M6 hm6 hok6 => ?_)
  replace atq := atq.mono hm6
  have hrr : RRel M6 [.slice A3 (intsF p).length c3, .slice R2 (q.l.map intsF).length rc2] ⟨intsF p, q.l.map intsF⟩ := ⟨A3, c3, R2, rc2, rfl, i3.mono RI.mono hm6, SlOf.ofOwn hok6 rfl hrc2 (hE2.mono RRowI.mono hm6)⟩
  (repeat (first | ((with_reducible refine Tr.step rfl ?_); (first | (refine xmQ (z := ?_)) | ((with_reducible refine Knd.load ?_); (first | (refine xlQ (z := ?_)) | (refine xwQ (z := ?_)) | (refine xMQ (z := ?_)))) | ((with_reducible refine Knd.fieldAddr ?_); (first | (refine xfQ (z := ?_)) | (refine Exec.stab rfl (Stab.fieldD rfl (tysOk.get rfl) rfl rfl (tysOk.get rfl) rfl) rfl ?_))) | (refine xnQ (z := ?_)) | (refine xiQ (z := ?_)) | (refine xxQ (z := ?_)) | ((with_reducible refine Knd.buildSlice ?_); (refine Exec.buildSlice (tysOk.get rfl) rfl (tysOk.get rfl) rfl rfl rfl rfl rfl (by repeat (first | exact BuildP.nil | ((apply BuildP.many); (rfl); (rfl); (rfl); (rfl); (repeat (first | exact PutL.nil | ((apply PutL.cons); (repeat (first | exact SetL.z | apply SetL.s)))))))) rfl (fun b => ?_))))) | (with_reducible first | apply Tr.next | apply Tr.seq | apply Tr.region | apply Tr.nil | apply Tr.exit | apply Tr.then_exit) | ((with_reducible refine Tr.in_exit ?_ ?_); (exact rfl)) | (refine Tr.cond_f rfl (by first | (with_reducible assumption) | omega) ?_)))
  ((refine Tr.step rfl ?_))
  refine Exec.append (A := R) (news := [.slice A3 (intsF p).length c3, .slice R2 (q.l.map intsF).length rc2]) rfl rfl (tysOk.get rfl) rfl (tysOk.get rfl) rfl rfl rfl rfl (by repeat (first | exact Del.here | apply Del.there)) (Src.box (by repeat (first | exact Has.here | apply Has.there))) rfl (by intro u hu; simp at hu; rcases hu with rfl | rfl <;> rfl) (by omega) (by omega) rfl (fun R4 rc4 hrc4 => ?_)
  refine gvQ (r := box b8 49 [_, _]) (k := ?_)
  refine gvQ (r := box _ 49 [_, _]) (k := ?_)
  refine gvQ (r := box b7 53 _) (k := ?_)
  rw [show ys.length + 1 = (ys ++ [(⟨intsF p, q.l.map intsF⟩ : Rel)]).length by rw [List.length_append, List.length_singleton]]
  (repeat (first | ((with_reducible refine Tr.step rfl ?_); (first | (refine xmQ (z := ?_)) | (refine xaQ (z := ?_)) | (refine xfQ (z := ?_)) | (refine xdQ (z := ?_)) | (refine xSQ (z := ?_)))) | (with_reducible first | apply Tr.next | apply Tr.region | apply Tr.nil | apply Tr.in_normal)))
  refine Tr.again (i + 1, ys ++ [⟨intsF p, q.l.map intsF⟩], R4, rc4, _, M6) ⟨by simp only; omega, by simp only [List.length_append, List.length_singleton]; omega, hrc4, (hE.mono RRel.mono hm6).append (Elems.one rfl hrr), ?_, hm34.trans (hm5.trans hm6)⟩ (by simp only; omega) hsQ
  dsimp only
  rw [hrel, List.append_assoc]
  rfl
end Go.Proofs.YtghjhdbmkilakaaGreatDoor

/-
  Frames: the reference's value of a message.
  Conditions: none.
-/
namespace Go.Proofs.YtghjhdbmkilakaaGreatDoor
open Go Bf
attribute [local irreducible] Tr Exec Stab HasTy Go.Addr.add IntKind.wrap
set_option maxHeartbeats 8000000 in
theorem rmsgv_fn (M : Mem) (m : Msg) (u : List Value) (hp : RMsg M u m) (hr : rightM m) :
    Fn0 Tryz.prog 21 [.agg u.toArray] M (fun r M' => RV M' r (msgV m)) := by
  obtain ⟨⟨a0, a1, a2, a3, a4, a5, a6, A, c, B, d, C, e, pe, rfl, p1, p2, p3⟩, pw, -⟩ := hp
  have psl := pw.1
  have psl2 : (byteV m.sl).length = 32 := by simpa using psl
  obtain ⟨-, -, -, r1, r2, r3, r4⟩ := hr
  have hok0 := pw.head
  rw [pe] at hok0
  have hsl : byteV m.sl = ((Value.int .i64 m.kind :: .int .i64 a0 :: .int .i64 a1 :: .int .i64 a2 :: .int .i64 a3 :: .int .i64 a4 :: .int .i64 a5 :: .int .i64 a6 :: .slice A m.labels.length c :: .slice B m.verdicts.length d :: .slice C m.rels.length e :: byteV m.sl).drop 11).take 32 := by
    show _ = (byteV m.sl).take 32
    rw [List.take_of_length_le (by omega)]
  refine Fn.intro Tryz.func21 rfl rfl Tryz.ntmps21 rfl fun E F => ?_
  (repeat (first | ((with_reducible refine Tr.step rfl ?_); (first | (refine xaQ (z := ?_)) | ((with_reducible refine Knd.box ?_); (refine Exec.box rfl rfl (fun b => ?_))) | ((with_reducible refine Knd.alloc ?_); (refine Exec.alloc (tysOk.get rfl) rfl rfl (fun b => ?_))) | ((with_reducible refine Knd.buildSlice ?_); (refine Exec.buildSlice (tysOk.get rfl) rfl (tysOk.get rfl) rfl rfl rfl rfl rfl (by repeat (first | exact BuildP.nil | ((apply BuildP.one); (rfl); (rfl); (first | rfl | assumption); (repeat (first | exact SetL.z | apply SetL.s))) | ((apply BuildP.many); (rfl); (rfl); (rfl); (rfl); (repeat (first | exact PutL.nil | ((apply PutL.cons); (repeat (first | exact SetL.z | apply SetL.s)))))))) rfl (fun b => ?_))))) | (with_reducible first | apply Tr.next | apply Tr.seq | apply Tr.region | apply Tr.nil | apply Tr.block)))
  generalize b = b5
  rename_i b1 b2
  refine Tr.cells (b := b5) (cs' := []) (by repeat (first | exact Upd.here | apply Upd.there)) rfl ?_
  refine Tr.box_own 4 0 (by repeat (first | exact Upd.here | apply Upd.there)) rfl (by simp) (by simp [maxLen]) ?_
  refine Tr.loop (α := Nat × Option Addr × Nat × List Value × Mem) (fun y => ⟨57, [(4, .int .i64 (y.1 : Int)), (3, .slice y.2.1 ((m.rels.take y.1).map relV).length y.2.2.1), (2, .pointer (some ⟨b2, 0, none⟩)), (1, .pointer (some ⟨b1, 0, none⟩))], [], y.2.2.2.2,
      ownS 53 4 y.2.1 ((m.rels.take y.1).map relV).length y.2.2.1 y.2.2.2.1 :: box b2 53 [.int .i64 0, .int .i64 0, .string ⟨#[]⟩, .slice none 0 0] :: box b1 27 (.int .i64 m.kind :: .int .i64 a0 :: .int .i64 a1 :: .int .i64 a2 :: .int .i64 a3 :: .int .i64 a4 :: .int .i64 a5 :: .int .i64 a6 :: .slice A m.labels.length c :: .slice B m.verdicts.length d :: .slice C m.rels.length e :: byteV m.sl) :: ([] ++ F)⟩)
    (fun y => y.1 ≤ m.rels.length ∧ Mem.le M y.2.2.2.2 ∧ y.2.2.1 ≤ 9223372036854775807 ∧ Elems 4 RVal y.2.2.2.2 y.2.2.2.1 ((m.rels.take y.1).map relV)) (fun y => m.rels.length - y.1) (0, some ⟨b5, 0, none⟩, 0, [], M) ⟨Nat.zero_le _, Mem.le.refl _, Nat.zero_le _, Elems.nil⟩ hsQ (fun y hy => ?_)
  obtain ⟨i, R, rc, cs, M1⟩ := y
  obtain ⟨hi1, hm1, hc, hE⟩ := hy
  dsimp only at hi1 hm1 hc hE ⊢
  have htl : ((m.rels.take i).map relV).length = i := by rw [List.length_map, List.length_take]; omega
  by_cases hlt : i < m.rels.length
  · obtain ⟨z, hz⟩ := get_of_lt hlt
    obtain ⟨hA, ch, hat, hx5⟩ := (p3.mono RRel.mono hm1).elem hz
    have hx6 := hx5
    obtain ⟨A5, k5, A6, k6, rfl, -, -⟩ := hx6
    have hzr := (r4 z (List.mem_of_getElem? hz)).small
    have hts : (m.rels.take (i + 1)).map relV = (m.rels.take i).map relV ++ [relV z] := by rw [List.take_add_one, hz]; simp
    (repeat (first | ((with_reducible refine Tr.step rfl ?_); (first | (refine xmQ (z := ?_)) | ((with_reducible refine Knd.load ?_); (first | (refine xlQ (z := ?_)) | (refine Exec.stab rfl (Stab.loadMA rfl (tysOk.get rfl) rfl (by assumption) (by first | rfl | assumption)) rfl ?_))) | (refine xfQ (z := ?_)) | (refine xnQ (z := ?_)) | (refine xiQ (z := ?_)) | (refine xxQ (z := ?_)))) | (with_reducible first | apply Tr.next | apply Tr.seq | apply Tr.region | apply Tr.nil | apply Tr.skip | apply Tr.block) | (refine Tr.cond_t rfl (by first | (with_reducible assumption) | (with_reducible rfl) | (with_reducible exact (not_not_intro rfl)) | omega) ?_)))
    ((refine Tr.step rfl ?_)); refine Exec.call0 rfl (rrelation_fn M1 z _ hx5 hzr (pw.rels.mem (List.mem_of_getElem? hz))) rfl ?_
    rintro r M2 hm2 hR
    obtain ⟨A3, k3, rfl, hRu⟩ := hR.news
    dsimp only [cV] at hRu ⊢
    (repeat (((with_reducible refine Tr.step rfl ?_); (with_reducible refine Knd.buildSlice ?_); (refine Exec.buildSlice (tysOk.get rfl) rfl (tysOk.get rfl) rfl rfl rfl rfl rfl (by repeat (first | exact BuildP.nil | ((apply BuildP.one); (rfl); (rfl); (first | rfl | assumption); (repeat (first | exact SetL.z | apply SetL.s))) | ((apply BuildP.many); (rfl); (rfl); (rfl); (rfl); (repeat (first | exact PutL.nil | ((apply PutL.cons); (repeat (first | exact SetL.z | apply SetL.s)))))))) rfl (fun b => ?_)))))
    ((refine Tr.step rfl ?_))
    refine Exec.append (A := R) (news := cV (relV z) A3 k3) rfl rfl (tysOk.get rfl) rfl (tysOk.get rfl) rfl rfl rfl rfl (by repeat (first | exact Del.here | apply Del.there)) (Src.box (by repeat (first | exact Has.here | apply Has.there))) rfl (cV_one _ _ _) (by omega) (by omega) rfl (fun R2 rc2 hrc2 => ?_)
    refine gvQ (r := box _ 53 [.int .i64 (relV z).k, _, _, _]) (k := ?_)
    rw [show ((m.rels.take i).map relV).length + 1 = ((m.rels.take (i + 1)).map relV).length by rw [hts, List.length_append, List.length_singleton]]
    (repeat (first | ((with_reducible refine Tr.step rfl ?_); (first | (refine xmQ (z := ?_)) | (refine xaQ (z := ?_)) | (refine xdQ (z := ?_)))) | (with_reducible first | apply Tr.next | apply Tr.region | apply Tr.nil | apply Tr.in_normal)))
    refine Tr.again (i + 1, R2, rc2, _, M2) ⟨by simp only; omega, hm1.trans hm2, hrc2, by simp only; rw [hts]; exact elems_snocV (hE.mono RVal.mono' hm2) hRu⟩ (by simp only; omega) hsQ
  have e : i = m.rels.length := by omega
  subst e
  rw [List.take_of_length_le (Nat.le_refl _)] at hE ⊢
  refine pbQ (r := ownS 53 4 R _ _ _) (k := fun M2 hm2 hok2 => ?_)
  have hin : RVals M2 (.slice R (m.rels.map relV).length rc) (m.rels.map relV) := SlOf.ofOwn hok2 rfl hc (hE.mono RVal.mono' hm2)
  have hm02 := hm1.trans hm2
  have hb0 : ∀ z ∈ [a0, a1, a2, a3, a4, a5, a6], -9223372036854775808 ≤ z ∧ z ≤ 9223372036854775807 := fun z hz => (hok0.mem hz).nV
  (repeat (first | ((with_reducible refine Tr.step rfl ?_); (first | (refine xmQ (z := ?_)) | (refine xlQ (z := ?_)) | (refine xfQ (z := ?_)) | (refine xnQ (z := ?_)) | (refine xiQ (z := ?_)))) | (with_reducible first | apply Tr.next | apply Tr.seq | apply Tr.region | apply Tr.nil | apply Tr.exit | apply Tr.then_exit) | ((with_reducible refine Tr.in_exit ?_ ?_); (exact rfl)) | (refine Tr.cond_f rfl (by first | (with_reducible assumption) | (with_reducible rfl) | (with_reducible exact (not_not_intro rfl)) | omega) ?_)))
  refine Tr.less [(3, .slice R (m.rels.map relV).length rc), (2, .pointer (some ⟨b2, 0, none⟩)), (1, .pointer (some ⟨b1, 0, none⟩))] _ (by repeat (first | exact SubFr.nil | refine SubFr.cons rfl ?_)) (by repeat (first | exact DropL.refl | apply DropL.skip)) ?_
  (((apply Tr.draw (box b1 27 _ :: _)); (kernel_rfl)); (refine tkQ 0 (hB := by exact (Sub.mem (by repeat (first | exact Sub.refl | apply Sub.cons)))) (s := by exact sfQ) (h := ?_)); (refine tkQ 3 (s := by exact sfQ) (h := ?_)); (refine tkQ 6 (s := by exact sfQ) (h := ?_)); (refine tkQ 9 (s := by exact sfQ) (h := ?_)); (refine tkQ 12 (s := by exact sfQ) (h := ?_)); (refine tkQ 15 (s := by exact sfQ) (h := ?_)); (refine tkQ 18 (s := by exact sfQ) (h := ?_)); (refine tkQ 21 (s := by exact sfQ) (h := ?_)); (refine tkQ 24 (s := by exact sfQ) (h := ?_)); (refine tkQ 27 (s := by exact Stab.move rfl) (h := ?_)); (refine tkQ 29 (s := by exact sfQ) (h := ?_)); (refine tkQ 1 (s := by exact slQ) (h := ?_)); (refine tkQ 4 (s := by exact slQ) (h := ?_)); (refine tkQ 7 (s := by exact slQ) (h := ?_)); (refine tkQ 10 (s := by exact slQ) (h := ?_)); (refine tkQ 13 (s := by exact slQ) (h := ?_)); (refine tkQ 16 (s := by exact slQ) (h := ?_)); (refine tkQ 19 (s := by exact slQ) (h := ?_)); (refine tkQ 22 (s := by exact slQ) (h := ?_)); (refine tkQ 25 (s := by exact slQ) (h := ?_)); (refine tkQ 30 (s := by exact Stab.sliceArr rfl (tysOk.get rfl) rfl (tysOk.get rfl) rfl) (h := ?_)); ((refine tkQ 31 (s := (Stab.bstr (l := m.sl) rfl (tysOk.get rfl) (tysOk.get rfl) rfl rfl (tysOk.get rfl) rfl (by refine cast (congrArg (Src _ _ _ _) hsl.symm) ?_; exact Src.boxP (by repeat (first | exact Has.here | apply Has.there))) psl (by intro h; cases h))) (h := ?_))); (refine TrA.eff 2 rfl (by kernel_rfl) (by first | exact .inl rfl | exact .inr ⟨_, _, _, rfl, rfl, rfl⟩) ?_))
  refine Exec.call0 rfl (int_fn M2 a0 (hb0 a0 (by simp))) rfl ?_
  rintro _ _ _ ⟨hR, rfl⟩
  obtain ⟨B0, j0, rfl, g0⟩ := hR.news
  refine ⟨Mem.le.refl _, (by exact (Sub.mem (by repeat (first | exact Sub.refl | apply Sub.cons)))), ?_⟩
  ((refine TrA.eff 5 rfl (by kernel_rfl) (by first | exact .inl rfl | exact .inr ⟨_, _, _, rfl, rfl, rfl⟩) ?_))
  refine Exec.call0 rfl (int_fn M2 a1 (hb0 a1 (by simp))) rfl ?_
  rintro _ _ _ ⟨hR, rfl⟩
  obtain ⟨B1, j1, rfl, g1⟩ := hR.news
  refine ⟨Mem.le.refl _, (by exact (Sub.mem (by repeat (first | exact Sub.refl | apply Sub.cons)))), ?_⟩
  ((refine TrA.eff 8 rfl (by kernel_rfl) (by first | exact .inl rfl | exact .inr ⟨_, _, _, rfl, rfl, rfl⟩) ?_))
  refine Exec.call0 rfl (int_fn M2 a2 (hb0 a2 (by simp))) rfl ?_
  rintro _ _ _ ⟨hR, rfl⟩
  obtain ⟨B2, j2, rfl, g2⟩ := hR.news
  refine ⟨Mem.le.refl _, (by exact (Sub.mem (by repeat (first | exact Sub.refl | apply Sub.cons)))), ?_⟩
  ((refine TrA.eff 11 rfl (by kernel_rfl) (by first | exact .inl rfl | exact .inr ⟨_, _, _, rfl, rfl, rfl⟩) ?_))
  refine Exec.call0 rfl (int_fn M2 a3 (hb0 a3 (by simp))) rfl ?_
  rintro _ _ _ ⟨hR, rfl⟩
  obtain ⟨B3, j3, rfl, g3⟩ := hR.news
  refine ⟨Mem.le.refl _, (by exact (Sub.mem (by repeat (first | exact Sub.refl | apply Sub.cons)))), ?_⟩
  ((refine TrA.eff 14 rfl (by kernel_rfl) (by first | exact .inl rfl | exact .inr ⟨_, _, _, rfl, rfl, rfl⟩) ?_))
  refine Exec.call0 rfl (int_fn M2 a4 (hb0 a4 (by simp))) rfl ?_
  rintro _ _ _ ⟨hR, rfl⟩
  obtain ⟨B4, j4, rfl, g4⟩ := hR.news
  refine ⟨Mem.le.refl _, (by exact (Sub.mem (by repeat (first | exact Sub.refl | apply Sub.cons)))), ?_⟩
  ((refine TrA.eff 17 rfl (by kernel_rfl) (by first | exact .inl rfl | exact .inr ⟨_, _, _, rfl, rfl, rfl⟩) ?_))
  refine Exec.call0 rfl (int_fn M2 a5 (hb0 a5 (by simp))) rfl ?_
  rintro _ _ _ ⟨hR, rfl⟩
  obtain ⟨B5, j5, rfl, g5⟩ := hR.news
  refine ⟨Mem.le.refl _, (by exact (Sub.mem (by repeat (first | exact Sub.refl | apply Sub.cons)))), ?_⟩
  ((refine TrA.eff 20 rfl (by kernel_rfl) (by first | exact .inl rfl | exact .inr ⟨_, _, _, rfl, rfl, rfl⟩) ?_))
  refine Exec.call0 rfl (int_fn M2 a6 (hb0 a6 (by simp))) rfl ?_
  rintro _ _ _ ⟨hR, rfl⟩
  obtain ⟨B6, j6, rfl, g6⟩ := hR.news
  refine ⟨Mem.le.refl _, (by exact (Sub.mem (by repeat (first | exact Sub.refl | apply Sub.cons)))), ?_⟩
  ((refine TrA.eff 23 rfl (by kernel_rfl) (by first | exact .inl rfl | exact .inr ⟨_, _, _, rfl, rfl, rfl⟩) ?_))
  refine Exec.call0 rfl (rints_fn M2 m.labels A c (p1.mono RI.mono hm02) (by omega) pw.labels) rfl ?_
  rintro _ M3 hm3 hR
  obtain ⟨B7, j7, rfl, g7⟩ := hR.news
  refine ⟨hm3, (by exact (Sub.mem (by repeat (first | exact Sub.refl | apply Sub.cons)))), ?_⟩
  ((refine TrA.eff 26 rfl (by kernel_rfl) (by first | exact .inl rfl | exact .inr ⟨_, _, _, rfl, rfl, rfl⟩) ?_))
  refine Exec.call0 rfl (rints_fn M3 m.verdicts B d (p2.mono RI.mono (hm02.trans hm3)) (by omega) pw.verdicts) rfl ?_
  rintro _ M4 hm4 hR
  obtain ⟨B8, j8, rfl, g8⟩ := hR.news
  refine ⟨hm4, (by exact (Sub.mem (by repeat (first | exact Sub.refl | apply Sub.cons)))), ?_⟩
  have hm24 := hm3.trans hm4
  ((refine TrA.eff 28 rfl (by kernel_rfl) (by first | exact .inl rfl | exact .inr ⟨_, _, _, rfl, rfl, rfl⟩) ?_))
  refine Exec.call0 rfl (list_fn M4 R rc (m.rels.map relV) (SlOf.mono RVal.mono' hin hm24)) rfl ?_
  rintro _ _ _ ⟨hR, rfl⟩
  obtain ⟨B9, j9, rfl, g9⟩ := hR.news
  refine ⟨Mem.le.refl _, (by exact (Sub.mem (by repeat (first | exact Sub.refl | apply Sub.cons)))), ?_⟩
  ((refine TrA.eff 32 rfl (by kernel_rfl) (by first | exact .inl rfl | exact .inr ⟨_, _, _, rfl, rfl, rfl⟩) ?_))
  refine Exec.call0 rfl (text_fn M4 m.sl (by omega)) rfl ?_
  rintro _ _ _ ⟨hR, rfl⟩
  obtain ⟨B10, j10, rfl, g10⟩ := hR.news
  refine ⟨Mem.le.refl _, (by exact (Sub.mem (by repeat (first | exact Sub.refl | apply Sub.cons)))), ?_⟩
  dsimp only [cV]
  ((refine TrA.eff 33 rfl (by kernel_rfl) (by first | exact .inl rfl | exact .inr ⟨_, _, _, rfl, rfl, rfl⟩) ?_); (((refine Knd.buildSlice ?_); ((refine Exec.buildSlice (tysOk.get rfl) rfl (tysOk.get rfl) rfl rfl rfl rfl rfl (by repeat (first | exact BuildP.nil | ((apply BuildP.many); (rfl); (rfl); (rfl); (rfl); (repeat (first | exact PutL.nil | ((apply PutL.cons); (repeat (first | exact SetL.z | apply SetL.s)))))))) rfl (fun b => ?_))))); (refine ⟨(by first | exact Mem.le.refl _ | assumption), (by exact (Sub.mem (by repeat (first | exact Sub.refl | apply Sub.cons)))), ?_⟩))
  generalize b = b9
  refine TrA.cells (b := b9) (cs' := cV (nV a0) B0 j0 ++ cV (nV a1) B1 j1 ++ cV (nV a2) B2 j2 ++ cV (nV a3) B3 j3 ++ cV (nV a4) B4 j4 ++ cV (nV a5) B5 j5 ++ cV (nV a6) B6 j6 ++ cV (numsV m.labels) B7 j7 ++ cV (numsV m.verdicts) B8 j8 ++ cV (lV (m.rels.map relV)) B9 j9 ++ cV (.mk 2 0 m.sl []) B10 j10) (by repeat (first | exact Upd.here | apply Upd.there)) rfl ?_
  refine TrA.publish (x := box b9 53 _) (by repeat (first | exact Del.here | apply Del.there)) (fun M5 hm5 hok => ?_)
  have hm25 := hm24.trans hm5
  have up : ∀ {cs v}, RVal M2 cs v → RVal M5 cs v := fun h => h.mono hm25
  have hE2 := elems_snocV (elems_snocV (elems_snocV (elems_snocV (elems_snocV (elems_snocV (elems_snocV (elems_snocV (elems_snocV (elems_snocV (elems_snocV (l := []) Elems.nil (up g0)) (up g1)) (up g2)) (up g3)) (up g4)) (up g5)) (up g6)) (g7.mono (hm4.trans hm5))) (g8.mono hm5)) (g9.mono hm5)) (g10.mono hm5)
  have hmv : (msgV m).l = [nV a0, nV a1, nV a2, nV a3, nV a4, nV a5, nV a6, numsV m.labels, numsV m.verdicts, lV (m.rels.map relV), .mk 2 0 m.sl []] := by
    show m.head.map nV ++ _ = _
    rw [pe]
    rfl
  have hS : RVals M5 (.slice (some ⟨b9, 0, none⟩) 11 11) [nV a0, nV a1, nV a2, nV a3, nV a4, nV a5, nV a6, numsV m.labels, numsV m.verdicts, lV (m.rels.map relV), .mk 2 0 m.sl []] :=
    SlOf.ofBox hok (fun w hw => by
      simp only [List.mem_append] at hw
      rcases hw with (((((((((hw | hw) | hw) | hw) | hw) | hw) | hw) | hw) | hw) | hw) | hw <;> exact cV_one _ _ _ w hw) (by simp) hE2
  rw [show msgV m = .mk 3 0 [] (msgV m).l from rfl, hmv]
  have hl11 : [nV a0, nV a1, nV a2, nV a3, nV a4, nV a5, nV a6, numsV m.labels, numsV m.verdicts, lV (m.rels.map relV), .mk 2 0 m.sl []].length = 11 := rfl
  generalize [nV a0, nV a1, nV a2, nV a3, nV a4, nV a5, nV a6, numsV m.labels, numsV m.verdicts, lV (m.rels.map relV), .mk 2 0 m.sl []] = l11 at hS hl11 ⊢
  have hcall := list_fn M5 (some ⟨b9, 0, none⟩) 11 l11 (by rw [hl11]; exact hS)
  rw [hl11] at hcall
  ((refine TrA.eff 34 rfl (by kernel_rfl) (by first | exact .inl rfl | exact .inr ⟨_, _, _, rfl, rfl, rfl⟩) ?_))
  refine Exec.call0 rfl hcall rfl ?_
  rintro _ _ _ ⟨hR, rfl⟩
  obtain ⟨B11, j11, rfl, g11⟩ := hR.news
  refine ⟨Mem.le.refl _, (by exact (Sub.mem (by repeat (first | exact Sub.refl | apply Sub.cons)))), ?_⟩
  dsimp only [cV] at g11 ⊢
  ((refine TrA.eff 35 rfl (by kernel_rfl) (by first | exact .inl rfl | exact .inr ⟨_, _, _, rfl, rfl, rfl⟩) ?_); (((refine Knd.store ?_); ((refine Exec.storeW rfl rfl (tysOk.get rfl) (by repeat (first | exact Upd.here | apply Upd.there)) rfl rfl (by repeat (first | (with_reducible assumption) | exact AllOne.nil | exact AllOne.bytes _ | refine AllOne.cons (by first | rfl | assumption) ?_)) ?_)))); (refine ⟨(by first | exact Mem.le.refl _ | assumption), (by exact (Sub.mem (by repeat (first | exact Sub.refl | apply Sub.cons)))), ?_⟩); (refine TrA.done (by kernel_rfl) ?_))
  have hmm : M.le M5 := hm02.trans hm25
  (repeat (first | (with_reducible first | apply Tr.next | apply Tr.ret)))
  (refine Tr.done (by first | exact .inl rfl | exact .inr rfl) rfl (by repeat (first | exact RVs.nil | (apply RVs.cons; (exact RV.cellW (by rfl) (tysOk.get (by rfl)) (by rfl) (by repeat (first | exact Has.here | apply Has.there)) (by first | rfl | assumption))))) (by first | exact Mem.le.refl _ | assumption) (by exact ⟨[_, _], rfl⟩) ⟨rfl, ?_⟩)
  exact ⟨_, rfl, g11⟩
end Go.Proofs.YtghjhdbmkilakaaGreatDoor

/-
  Frames: the reference's Right.
  Conditions: none.
-/
namespace Go.Proofs.YtghjhdbmkilakaaGreatDoor
open Go Bf
attribute [local irreducible] Tr Exec Stab HasTy Go.Addr.add IntKind.wrap
set_option maxHeartbeats 8000000 in
theorem rright_fn (M : Mem) (m : Msg) (u : List Value) (hp : RMsg M u m) :
    Fn0 Tryz.prog 19 [.agg u.toArray] M (fun r M' => r = .bool (decide (rightM m)) ∧ M = M') := by
  obtain ⟨⟨a0, a1, a2, a3, a4, a5, a6, A, c, B, d, C, e, pe, rfl, p1, p2, p3⟩, pw, -⟩ := hp
  have psl2 : (byteV m.sl).length = 32 := by simpa using pw.1
  have hd0 : m.head.getD 0 0 = a0 := by rw [pe]; rfl
  have hd1 : m.head.getD 1 0 = a1 := by rw [pe]; rfl
  have l3 := p3.len_le
  have hR : rightM m ↔ (1 ≤ m.kind ∧ m.kind ≤ 8) ∧ (0 ≤ a0 ∧ a0 ≤ 15) ∧ (0 ≤ a1 ∧ a1 ≤ 15) ∧ m.labels.length ≤ 64 ∧ m.verdicts.length ≤ 64 ∧ m.rels.length ≤ 64 ∧ ∀ r ∈ m.rels, rightR r := by
    rw [← hd0, ← hd1]; exact Iff.rfl
  refine Fn.intro Tryz.func19 rfl rfl Tryz.ntmps19 rfl fun E F => ?_
  by_cases k0 : m.kind < 1
  · rw [decide_eq_false (p := rightM m) (fun h => by have := (hR.1 h).1; omega)]
    (repeat (first | ((with_reducible refine Tr.step rfl ?_); (first | (refine xmQ (z := ?_)) | (refine xaQ (z := ?_)) | (refine xlQ (z := ?_)) | (refine xfQ (z := ?_)) | (refine xiQ (z := ?_)) | ((with_reducible refine Knd.pick ?_); (first | (refine Exec.stab rfl (Stab.pick_t rfl (by (with_reducible rfl)) rfl) rfl ?_) | (refine Exec.stab rfl (Stab.pick_td rfl (by (with_reducible assumption)) rfl) rfl ?_))) | ((with_reducible refine Knd.box ?_); (refine Exec.box rfl rfl (fun b => ?_))))) | (with_reducible first | apply Tr.next | apply Tr.seq | apply Tr.region | apply Tr.nil) | (refine Tr.guard_s0 rfl rfl rfl (by (with_reducible rfl)) rfl rfl ?_) | (refine Tr.guard_n' rfl rfl rfl (by (with_reducible assumption)) rfl rfl ?_) | (with_reducible first | apply Tr.ret | apply Tr.then_ret) | (refine Tr.cond_bt rfl (by (with_reducible rfl)) ?_)))
    (refine dnQ (hL := by exact ⟨[_], rfl⟩) (k := ⟨rfl, ?_⟩))
    exact ⟨rfl, rfl⟩
  by_cases k1 : m.kind > 8
  · rw [decide_eq_false (p := rightM m) (fun h => by have := (hR.1 h).1; omega)]
    (repeat (first | ((with_reducible refine Tr.step rfl ?_); (first | (refine xmQ (z := ?_)) | (refine xaQ (z := ?_)) | (refine xlQ (z := ?_)) | (refine xfQ (z := ?_)) | (refine xiQ (z := ?_)) | ((with_reducible refine Knd.pick ?_); (first | (refine Exec.stab rfl (Stab.pick_t rfl (by (with_reducible rfl)) rfl) rfl ?_) | (refine Exec.stab rfl (Stab.pick_td rfl (by (with_reducible assumption)) rfl) rfl ?_) | (refine Exec.stab rfl (Stab.pick_fd rfl (by (with_reducible assumption)) rfl) rfl ?_))) | ((with_reducible refine Knd.box ?_); (refine Exec.box rfl rfl (fun b => ?_))))) | (with_reducible first | apply Tr.next | apply Tr.seq | apply Tr.region | apply Tr.nil) | (refine Tr.guard_s0 rfl rfl rfl (by (with_reducible rfl)) rfl rfl ?_) | ((refine Tr.guard_y' rfl rfl rfl (by (with_reducible assumption)) ?_); (first | (refine xlQ (z := ?_)) | (refine xfQ (z := ?_)) | (refine xiQ (z := ?_)))) | (refine Tr.guard_n' rfl rfl rfl (by (with_reducible assumption)) rfl rfl ?_) | (with_reducible first | apply Tr.ret | apply Tr.then_ret) | (refine Tr.cond_bt rfl (by (with_reducible rfl)) ?_)))
    (refine dnQ (hL := by exact ⟨[_], rfl⟩) (k := ⟨rfl, ?_⟩))
    exact ⟨rfl, rfl⟩
  by_cases k2 : a0 < 0
  · rw [decide_eq_false (p := rightM m) (fun h => by have := (hR.1 h).2.1; omega)]
    (repeat (first | ((with_reducible refine Tr.step rfl ?_); (first | (refine xmQ (z := ?_)) | (refine xaQ (z := ?_)) | (refine xlQ (z := ?_)) | (refine xfQ (z := ?_)) | (refine xiQ (z := ?_)) | ((with_reducible refine Knd.pick ?_); (first | (refine Exec.stab rfl (Stab.pick_t rfl (by (with_reducible rfl)) rfl) rfl ?_) | (refine Exec.stab rfl (Stab.pick_td rfl (by (with_reducible assumption)) rfl) rfl ?_) | (refine Exec.stab rfl (Stab.pick_fd rfl (by (with_reducible assumption)) rfl) rfl ?_))) | ((with_reducible refine Knd.box ?_); (refine Exec.box rfl rfl (fun b => ?_))))) | (with_reducible first | apply Tr.next | apply Tr.seq | apply Tr.region | apply Tr.nil) | (refine Tr.guard_s0 rfl rfl rfl (by (with_reducible rfl)) rfl rfl ?_) | ((refine Tr.guard_y' rfl rfl rfl (by (with_reducible assumption)) ?_); (first | (refine xlQ (z := ?_)) | (refine xfQ (z := ?_)) | (refine xiQ (z := ?_)))) | (refine Tr.guard_n' rfl rfl rfl (by (with_reducible assumption)) rfl rfl ?_) | (with_reducible first | apply Tr.ret | apply Tr.then_ret) | (refine Tr.cond_bt rfl (by (with_reducible rfl)) ?_)))
    (refine dnQ (hL := by exact ⟨[_], rfl⟩) (k := ⟨rfl, ?_⟩))
    exact ⟨rfl, rfl⟩
  by_cases k3 : a0 > 15
  · rw [decide_eq_false (p := rightM m) (fun h => by have := (hR.1 h).2.1; omega)]
    (repeat (first | ((with_reducible refine Tr.step rfl ?_); (first | (refine xmQ (z := ?_)) | (refine xaQ (z := ?_)) | (refine xlQ (z := ?_)) | (refine xfQ (z := ?_)) | (refine xiQ (z := ?_)) | ((with_reducible refine Knd.pick ?_); (first | (refine Exec.stab rfl (Stab.pick_t rfl (by (with_reducible rfl)) rfl) rfl ?_) | (refine Exec.stab rfl (Stab.pick_td rfl (by (with_reducible assumption)) rfl) rfl ?_) | (refine Exec.stab rfl (Stab.pick_fd rfl (by (with_reducible assumption)) rfl) rfl ?_))) | ((with_reducible refine Knd.box ?_); (refine Exec.box rfl rfl (fun b => ?_))))) | (with_reducible first | apply Tr.next | apply Tr.seq | apply Tr.region | apply Tr.nil) | (refine Tr.guard_s0 rfl rfl rfl (by (with_reducible rfl)) rfl rfl ?_) | ((refine Tr.guard_y' rfl rfl rfl (by (with_reducible assumption)) ?_); (first | (refine xlQ (z := ?_)) | (refine xfQ (z := ?_)) | (refine xiQ (z := ?_)))) | (refine Tr.guard_n' rfl rfl rfl (by (with_reducible assumption)) rfl rfl ?_) | (with_reducible first | apply Tr.ret | apply Tr.then_ret) | (refine Tr.cond_bt rfl (by (with_reducible rfl)) ?_)))
    (refine dnQ (hL := by exact ⟨[_], rfl⟩) (k := ⟨rfl, ?_⟩))
    exact ⟨rfl, rfl⟩
  by_cases k4 : a1 < 0
  · rw [decide_eq_false (p := rightM m) (fun h => by have := (hR.1 h).2.2.1; omega)]
    (repeat (first | ((with_reducible refine Tr.step rfl ?_); (first | (refine xmQ (z := ?_)) | (refine xaQ (z := ?_)) | (refine xlQ (z := ?_)) | (refine xfQ (z := ?_)) | (refine xiQ (z := ?_)) | ((with_reducible refine Knd.pick ?_); (first | (refine Exec.stab rfl (Stab.pick_t rfl (by (with_reducible rfl)) rfl) rfl ?_) | (refine Exec.stab rfl (Stab.pick_td rfl (by (with_reducible assumption)) rfl) rfl ?_) | (refine Exec.stab rfl (Stab.pick_fd rfl (by (with_reducible assumption)) rfl) rfl ?_))) | ((with_reducible refine Knd.box ?_); (refine Exec.box rfl rfl (fun b => ?_))))) | (with_reducible first | apply Tr.next | apply Tr.seq | apply Tr.region | apply Tr.nil) | (refine Tr.guard_s0 rfl rfl rfl (by (with_reducible rfl)) rfl rfl ?_) | ((refine Tr.guard_y' rfl rfl rfl (by (with_reducible assumption)) ?_); (first | (refine xlQ (z := ?_)) | (refine xfQ (z := ?_)) | (refine xiQ (z := ?_)))) | (refine Tr.guard_n' rfl rfl rfl (by (with_reducible assumption)) rfl rfl ?_) | (with_reducible first | apply Tr.ret | apply Tr.then_ret) | (refine Tr.cond_bt rfl (by (with_reducible rfl)) ?_)))
    (refine dnQ (hL := by exact ⟨[_], rfl⟩) (k := ⟨rfl, ?_⟩))
    exact ⟨rfl, rfl⟩
  by_cases k5 : a1 > 15
  · rw [decide_eq_false (p := rightM m) (fun h => by have := (hR.1 h).2.2.1; omega)]
    (repeat (first | ((with_reducible refine Tr.step rfl ?_); (first | (refine xmQ (z := ?_)) | (refine xaQ (z := ?_)) | (refine xlQ (z := ?_)) | (refine xfQ (z := ?_)) | (refine xiQ (z := ?_)) | ((with_reducible refine Knd.pick ?_); (first | (refine Exec.stab rfl (Stab.pick_t rfl (by (with_reducible rfl)) rfl) rfl ?_) | (refine Exec.stab rfl (Stab.pick_td rfl (by (with_reducible assumption)) rfl) rfl ?_) | (refine Exec.stab rfl (Stab.pick_fd rfl (by (with_reducible assumption)) rfl) rfl ?_))) | ((with_reducible refine Knd.box ?_); (refine Exec.box rfl rfl (fun b => ?_))))) | (with_reducible first | apply Tr.next | apply Tr.seq | apply Tr.region | apply Tr.nil) | (refine Tr.guard_s0 rfl rfl rfl (by (with_reducible rfl)) rfl rfl ?_) | ((refine Tr.guard_y' rfl rfl rfl (by (with_reducible assumption)) ?_); (first | (refine xlQ (z := ?_)) | (refine xfQ (z := ?_)) | (refine xiQ (z := ?_)))) | (refine Tr.guard_n' rfl rfl rfl (by (with_reducible assumption)) rfl rfl ?_) | (with_reducible first | apply Tr.ret | apply Tr.then_ret) | (refine Tr.cond_bt rfl (by (with_reducible rfl)) ?_)))
    (refine dnQ (hL := by exact ⟨[_], rfl⟩) (k := ⟨rfl, ?_⟩))
    exact ⟨rfl, rfl⟩
  by_cases c1 : (m.labels.length : Int) > 64
  · rw [decide_eq_false (p := rightM m) (fun h => by have := (hR.1 h).2.2.2.1; omega)]
    (repeat (first | ((with_reducible refine Tr.step rfl ?_); (first | (refine xmQ (z := ?_)) | (refine xaQ (z := ?_)) | (refine xlQ (z := ?_)) | (refine xfQ (z := ?_)) | (refine xiQ (z := ?_)) | ((with_reducible refine Knd.pick ?_); (first | (refine Exec.stab rfl (Stab.pick_t rfl (by (with_reducible rfl)) rfl) rfl ?_) | (refine Exec.stab rfl (Stab.pick_td rfl (by (with_reducible assumption)) rfl) rfl ?_) | (refine Exec.stab rfl (Stab.pick_fd rfl (by (with_reducible assumption)) rfl) rfl ?_))) | ((with_reducible refine Knd.box ?_); (refine Exec.box rfl rfl (fun b => ?_))))) | (with_reducible first | apply Tr.next | apply Tr.seq | apply Tr.region | apply Tr.nil) | (refine Tr.guard_s0 rfl rfl rfl (by (with_reducible rfl)) rfl rfl ?_) | ((refine Tr.guard_y' rfl rfl rfl (by (with_reducible assumption)) ?_); (first | (refine xlQ (z := ?_)) | (refine xfQ (z := ?_)) | (refine xnQ (z := ?_)) | (refine xiQ (z := ?_)))) | (refine Tr.guard_n' rfl rfl rfl (by (with_reducible assumption)) rfl rfl ?_) | (with_reducible first | apply Tr.ret | apply Tr.then_ret) | (refine Tr.cond_bt rfl (by (with_reducible rfl)) ?_)))
    (refine dnQ (hL := by exact ⟨[_], rfl⟩) (k := ⟨rfl, ?_⟩))
    exact ⟨rfl, rfl⟩
  by_cases c2 : (m.verdicts.length : Int) > 64
  · rw [decide_eq_false (p := rightM m) (fun h => by have := (hR.1 h).2.2.2.2.1; omega)]
    (repeat (first | ((with_reducible refine Tr.step rfl ?_); (first | (refine xmQ (z := ?_)) | (refine xaQ (z := ?_)) | (refine xlQ (z := ?_)) | (refine xfQ (z := ?_)) | (refine xiQ (z := ?_)) | ((with_reducible refine Knd.pick ?_); (first | (refine Exec.stab rfl (Stab.pick_td rfl (by (with_reducible assumption)) rfl) rfl ?_) | (refine Exec.stab rfl (Stab.pick_fd rfl (by (with_reducible assumption)) rfl) rfl ?_))) | ((with_reducible refine Knd.box ?_); (refine Exec.box rfl rfl (fun b => ?_))))) | (with_reducible first | apply Tr.next | apply Tr.seq | apply Tr.region | apply Tr.nil) | ((refine Tr.guard_y' rfl rfl rfl (by (with_reducible assumption)) ?_); (first | (refine xlQ (z := ?_)) | (refine xfQ (z := ?_)) | (refine xnQ (z := ?_)) | (refine xiQ (z := ?_)))) | (refine Tr.guard_n' rfl rfl rfl (by (with_reducible assumption)) rfl rfl ?_) | (with_reducible first | apply Tr.ret | apply Tr.then_ret) | (refine Tr.cond_bt rfl (by (with_reducible rfl)) ?_)))
    (refine dnQ (hL := by exact ⟨[_], rfl⟩) (k := ⟨rfl, ?_⟩))
    exact ⟨rfl, rfl⟩
  by_cases c3 : (m.rels.length : Int) > 64
  · rw [decide_eq_false (p := rightM m) (fun h => by have := (hR.1 h).2.2.2.2.2.1; omega)]
    (repeat (first | ((with_reducible refine Tr.step rfl ?_); (first | (refine xmQ (z := ?_)) | (refine xaQ (z := ?_)) | (refine xlQ (z := ?_)) | (refine xfQ (z := ?_)) | (refine xiQ (z := ?_)) | ((with_reducible refine Knd.pick ?_); (refine Exec.stab rfl (Stab.pick_fd rfl (by (with_reducible assumption)) rfl) rfl ?_)) | ((with_reducible refine Knd.box ?_); (refine Exec.box rfl rfl (fun b => ?_))))) | (with_reducible first | apply Tr.next | apply Tr.seq | apply Tr.region | apply Tr.nil) | ((refine Tr.guard_y' rfl rfl rfl (by (with_reducible assumption)) ?_); (first | (refine xlQ (z := ?_)) | (refine xfQ (z := ?_)) | (refine xnQ (z := ?_)) | (refine xiQ (z := ?_)))) | (with_reducible first | apply Tr.ret | apply Tr.then_ret) | (refine Tr.cond_t rfl (by (with_reducible assumption)) ?_)))
    (refine dnQ (hL := by exact ⟨[_], rfl⟩) (k := ⟨rfl, ?_⟩))
    exact ⟨rfl, rfl⟩
  (repeat (first | ((with_reducible refine Tr.step rfl ?_); (first | (refine xmQ (z := ?_)) | (refine xaQ (z := ?_)) | (refine xlQ (z := ?_)) | (refine xfQ (z := ?_)) | (refine xiQ (z := ?_)) | ((with_reducible refine Knd.pick ?_); (refine Exec.stab rfl (Stab.pick_fd rfl (by (with_reducible assumption)) rfl) rfl ?_)) | ((with_reducible refine Knd.box ?_); (refine Exec.box rfl rfl (fun b => ?_))))) | (with_reducible first | apply Tr.next | apply Tr.seq | apply Tr.region | apply Tr.nil) | ((refine Tr.guard_y' rfl rfl rfl (by (with_reducible assumption)) ?_); (first | (refine xlQ (z := ?_)) | (refine xfQ (z := ?_)) | (refine xnQ (z := ?_)) | (refine xiQ (z := ?_)))) | (with_reducible first | apply Tr.skip | apply Tr.block) | (refine Tr.cond_f rfl (by (with_reducible assumption)) ?_)))
  generalize b = b1
  have hR2 : rightM m ↔ ∀ r ∈ m.rels, rightR r := ⟨fun h => (hR.1 h).2.2.2.2.2.2, fun h => hR.2 ⟨by omega, by omega, by omega, by omega, by omega, by omega, h⟩⟩
  clear hR
  refine Tr.loop (α := Nat) (fun i => ⟨91, [(3, .int .i64 (i : Int)), (2, .bool false), (1, .pointer (some ⟨b1, 0, none⟩))], [], M, box b1 27 (.int .i64 m.kind :: .int .i64 a0 :: .int .i64 a1 :: .int .i64 a2 :: .int .i64 a3 :: .int .i64 a4 :: .int .i64 a5 :: .int .i64 a6 :: .slice A m.labels.length c :: .slice B m.verdicts.length d :: .slice C m.rels.length e :: byteV m.sl) :: ([] ++ F)⟩) (fun i => i ≤ m.rels.length ∧ ∀ r ∈ m.rels.take i, rightR r) (fun i => m.rels.length - i) 0 ⟨by simp, by simp⟩ hsQ (fun i hi => ?_)
  obtain ⟨hi, hall⟩ := hi
  by_cases hlt : i < m.rels.length
  rotate_left
  · rw [List.take_of_length_le (by omega)] at hall
    rw [decide_eq_true (hR2.2 hall)]
    (repeat (first | ((with_reducible refine Tr.step rfl ?_); (first | (refine xmQ (z := ?_)) | (refine xaQ (z := ?_)) | (refine xlQ (z := ?_)) | (refine xfQ (z := ?_)) | (refine xnQ (z := ?_)) | (refine xiQ (z := ?_)))) | (with_reducible first | apply Tr.next | apply Tr.seq | apply Tr.region | apply Tr.nil | apply Tr.exit | apply Tr.ret | apply Tr.then_exit) | ((with_reducible refine Tr.in_exit ?_ ?_); (exact rfl)) | (refine Tr.cond_f rfl (by first | (with_reducible assumption) | omega) ?_)))
    (refine dnQ (hL := by exact ⟨[_], rfl⟩) (k := ⟨rfl, ?_⟩))
    exact ⟨rfl, rfl⟩
  obtain ⟨x, hx⟩ := get_of_lt hlt
  have hxm := List.mem_of_getElem? hx
  obtain ⟨hA, ch, hat, A1, k1, A2, k2, rfl, hr1, hr2⟩ := p3.elem hx
  have l4 := hr2.len_le
  have l5 := hr1.len_le
  by_cases d1 : (x.out.length : Int) > 64
  · rw [decide_eq_false (p := rightM m) (fun h => by have := (hR2.1 h x hxm).1; omega)]
    (repeat (first | ((with_reducible refine Tr.step rfl ?_); (first | (refine xmQ (z := ?_)) | (refine xaQ (z := ?_)) | ((with_reducible refine Knd.load ?_); (first | (refine xlQ (z := ?_)) | (refine Exec.stab rfl (Stab.loadMA rfl (tysOk.get rfl) rfl (by assumption) (by first | rfl | assumption)) rfl ?_))) | (refine xfQ (z := ?_)) | (refine xnQ (z := ?_)) | (refine xiQ (z := ?_)) | ((with_reducible refine Knd.pick ?_); (refine Exec.stab rfl (Stab.pick_td rfl (by (with_reducible assumption)) rfl) rfl ?_)) | (refine xWQ (z := ?_)) | ((with_reducible refine Knd.alloc ?_); (refine Exec.alloc (tysOk.get rfl) rfl rfl (fun b => ?_))) | (refine xxQ (z := ?_)))) | (with_reducible first | apply Tr.next | apply Tr.seq | apply Tr.region | apply Tr.nil) | (refine Tr.guard_n' rfl rfl rfl (by (with_reducible assumption)) rfl rfl ?_) | (with_reducible first | apply Tr.skip | apply Tr.block | apply Tr.ret | apply Tr.then_ret | apply Tr.in_ret) | (refine Tr.cond_bt rfl (by (with_reducible rfl)) ?_) | (refine Tr.cond_t rfl (by first | (with_reducible assumption) | omega) ?_)))
    (refine dnQ (hL := by exact ⟨[_, _], rfl⟩) (k := ⟨rfl, ?_⟩))
    exact ⟨rfl, rfl⟩
  by_cases d2 : (x.inn.length : Int) ≠ (x.out.length : Int)
  · rw [decide_eq_false (p := rightM m) (fun h => by have := (hR2.1 h x hxm).2.1; omega)]
    (repeat (first | ((with_reducible refine Tr.step rfl ?_); (first | (refine xmQ (z := ?_)) | (refine xaQ (z := ?_)) | ((with_reducible refine Knd.load ?_); (first | (refine xlQ (z := ?_)) | (refine Exec.stab rfl (Stab.loadMA rfl (tysOk.get rfl) rfl (by assumption) (by first | rfl | assumption)) rfl ?_))) | (refine xfQ (z := ?_)) | (refine xnQ (z := ?_)) | (refine xiQ (z := ?_)) | ((with_reducible refine Knd.pick ?_); (refine Exec.stab rfl (Stab.pick_fd rfl (by (with_reducible assumption)) rfl) rfl ?_)) | (refine xWQ (z := ?_)) | ((with_reducible refine Knd.alloc ?_); (refine Exec.alloc (tysOk.get rfl) rfl rfl (fun b => ?_))) | (refine xxQ (z := ?_)))) | (with_reducible first | apply Tr.next | apply Tr.seq | apply Tr.region | apply Tr.nil) | ((refine Tr.guard_y' rfl rfl rfl (by (with_reducible assumption)) ?_); (first | (refine xlQ (z := ?_)) | (refine xfQ (z := ?_)) | (refine xnQ (z := ?_)) | (refine xiQ (z := ?_)))) | (with_reducible first | apply Tr.skip | apply Tr.block | apply Tr.ret | apply Tr.then_ret | apply Tr.in_ret) | (refine Tr.cond_t rfl (by first | (with_reducible assumption) | omega) ?_)))
    (refine dnQ (hL := by exact ⟨[_, _], rfl⟩) (k := ⟨rfl, ?_⟩))
    exact ⟨rfl, rfl⟩
  (repeat (first | ((with_reducible refine Tr.step rfl ?_); (first | (refine xmQ (z := ?_)) | (refine xaQ (z := ?_)) | ((with_reducible refine Knd.load ?_); (first | (refine xlQ (z := ?_)) | (refine Exec.stab rfl (Stab.loadMA rfl (tysOk.get rfl) rfl (by assumption) (by first | rfl | assumption)) rfl ?_))) | (refine xfQ (z := ?_)) | (refine xnQ (z := ?_)) | (refine xiQ (z := ?_)) | ((with_reducible refine Knd.pick ?_); (refine Exec.stab rfl (Stab.pick_fd rfl (by (with_reducible assumption)) rfl) rfl ?_)) | (refine xWQ (z := ?_)) | ((with_reducible refine Knd.alloc ?_); (refine Exec.alloc (tysOk.get rfl) rfl rfl (fun b => ?_))) | (refine xxQ (z := ?_)))) | (with_reducible first | apply Tr.next | apply Tr.seq | apply Tr.region | apply Tr.nil) | ((refine Tr.guard_y' rfl rfl rfl (by (with_reducible assumption)) ?_); (first | (refine xlQ (z := ?_)) | (refine xfQ (z := ?_)) | (refine xnQ (z := ?_)) | (refine xiQ (z := ?_)))) | (with_reducible first | apply Tr.skip | apply Tr.block) | (refine Tr.cond_t rfl (by first | (with_reducible assumption) | omega) ?_) | (refine Tr.cond_f rfl (by (with_reducible assumption)) ?_)))
  generalize b = b4
  refine Tr.loop (α := Nat) (fun k => ⟨91, [(5, .int .i64 (k : Int)), (4, .pointer (some ⟨b4, 0, none⟩)), (3, .int .i64 (i : Int)), (2, .bool false), (1, .pointer (some ⟨b1, 0, none⟩))], [], M, box b4 49 [.slice A1 x.out.length k1, .slice A2 x.inn.length k2] :: box b1 27 (.int .i64 m.kind :: .int .i64 a0 :: .int .i64 a1 :: .int .i64 a2 :: .int .i64 a3 :: .int .i64 a4 :: .int .i64 a5 :: .int .i64 a6 :: .slice A m.labels.length c :: .slice B m.verdicts.length d :: .slice C m.rels.length e :: byteV m.sl) :: ([] ++ F)⟩) (fun k => k ≤ x.inn.length ∧ ∀ l ∈ x.inn.take k, l.length ≤ 64) (fun k => x.inn.length - k) 0 ⟨by simp, by simp⟩ hsQ (fun k hk => ?_)
  obtain ⟨hk, hkall⟩ := hk
  by_cases hlt2 : k < x.inn.length
  rotate_left
  · rw [List.take_of_length_le (by omega)] at hkall
    (repeat (first | ((with_reducible refine Tr.step rfl ?_); (first | (refine xmQ (z := ?_)) | (refine xaQ (z := ?_)) | (refine xlQ (z := ?_)) | (refine xfQ (z := ?_)) | (refine xnQ (z := ?_)) | ((with_reducible refine Knd.binOp ?_); (first | (refine xdQ (z := ?_)) | (refine xiQ (z := ?_)))))) | (with_reducible first | apply Tr.next | apply Tr.seq | apply Tr.region | apply Tr.nil | apply Tr.exit | apply Tr.then_exit | apply Tr.in_normal) | ((with_reducible refine Tr.in_exit ?_ ?_); (exact rfl)) | (refine Tr.cond_f rfl (by first | (with_reducible assumption) | omega) ?_)))
    refine Tr.again (i + 1) ⟨by omega, all_take hx hall ⟨by omega, by omega, hkall⟩⟩ (by omega) hsQ
  obtain ⟨z, hz⟩ := get_of_lt hlt2
  have hzm := List.mem_of_getElem? hz
  obtain ⟨hB, ch2, hbt, A3, k3, rfl, hi3⟩ := hr2.elem hz
  by_cases f1 : (z.length : Int) > 64
  · rw [decide_eq_false (p := rightM m) (fun h => by have := (hR2.1 h x hxm).2.2 z hzm; omega)]
    (repeat (first | ((with_reducible refine Tr.step rfl ?_); (first | (refine xmQ (z := ?_)) | (refine xaQ (z := ?_)) | ((with_reducible refine Knd.load ?_); (first | (refine xlQ (z := ?_)) | (refine xMQ (z := ?_)))) | (refine xfQ (z := ?_)) | (refine xnQ (z := ?_)) | (refine xiQ (z := ?_)) | (refine xxQ (z := ?_)))) | (with_reducible first | apply Tr.next | apply Tr.seq | apply Tr.region | apply Tr.nil | apply Tr.skip | apply Tr.block | apply Tr.ret | apply Tr.then_ret | apply Tr.in_ret) | (refine Tr.cond_t rfl (by first | (with_reducible assumption) | omega) ?_)))
    (refine dnQ (hL := by exact ⟨[_, _], rfl⟩) (k := ⟨rfl, ?_⟩))
    exact ⟨rfl, rfl⟩
  (repeat (first | ((with_reducible refine Tr.step rfl ?_); (first | (refine xmQ (z := ?_)) | (refine xaQ (z := ?_)) | ((with_reducible refine Knd.load ?_); (first | (refine xlQ (z := ?_)) | (refine xMQ (z := ?_)))) | (refine xfQ (z := ?_)) | (refine xnQ (z := ?_)) | ((with_reducible refine Knd.binOp ?_); (first | (refine xdQ (z := ?_)) | (refine xiQ (z := ?_)))) | (refine xxQ (z := ?_)))) | (with_reducible first | apply Tr.next | apply Tr.seq | apply Tr.region | apply Tr.nil | apply Tr.skip | apply Tr.block | apply Tr.in_normal) | (refine Tr.cond_t rfl (by first | (with_reducible assumption) | omega) ?_) | (refine Tr.cond_f rfl (by (with_reducible assumption)) ?_)))
  refine Tr.again (k + 1) ⟨by omega, all_take hz hkall (by omega)⟩ (by omega) hsQ
end Go.Proofs.YtghjhdbmkilakaaGreatDoor

/-
  The codec: the contracts of the reference's Formed, Depth and Check.
  Conditions: none.
-/
namespace Go.Proofs.YtghjhdbmkilakaaGreatDoor
open Go Bf
attribute [local irreducible] Tr Exec Stab HasTy Go.Addr.add IntKind.wrap
theorem formed1 {v : Val} (h : v.k = 1) : formed v = (v.s.isEmpty && v.l.isEmpty) := by
  cases v with
  | mk k n s l =>
    have h : k = 1 := h
    subst h
    show formed _ = (s.isEmpty && l.isEmpty)
    rw [formed, formedL_all]
    cases l <;> simp
theorem formed2 {v : Val} (h : v.k = 2) : formed v = (decide (v.n = 0) && v.l.isEmpty) := by
  cases v with
  | mk k n s l =>
    have h : k = 2 := h
    subst h
    show formed _ = (decide (n = 0) && l.isEmpty)
    rw [formed, formedL_all]
    cases l <;> simp
theorem formed3 {v : Val} (h : v.k = 3) : formed v = (v.l.all formed && (decide (v.n = 0) && v.s.isEmpty)) := by
  cases v with
  | mk k n s l =>
    have h : k = 3 := h
    subst h
    show formed _ = (l.all formed && (decide (n = 0) && s.isEmpty))
    rw [formed, formedL_all]
    simp [Bool.and_comm]
theorem formed0 {v : Val} (h1 : ¬ v.k = 1) (h2 : ¬ v.k = 2) (h3 : ¬ v.k = 3) : formed v = false := by
  rw [formed_eq]
  simp [pureOk, h1, h2, h3]
set_option maxHeartbeats 2000000 in
theorem rformed_fn (M : Mem) : ∀ (v : Val) (r : Value), RV M r v → Fn0 Tryz.prog 92 [r] M (fun r M' => r = .bool (formed v) ∧ M = M') := by
  intro v
  induction v using Val.ind with
  | h k n s l ih =>
  intro r hr
  generalize hv : Val.mk k n s l = v at hr
  have hvl : v.l = l := by rw [← hv]; rfl
  obtain ⟨A, c, rfl, hR, hl, hk, -⟩ := hr.open_
  have hll := hl.len_le
  by_cases k1 : v.k = 1
  · rw [formed1 k1]
    refine Fn.intro Tryz.func92 rfl rfl Tryz.ntmps92 rfl fun E F => ?_
    repeat (first | ((with_reducible refine Tr.step rfl ?_); (first | (refine xmQ (z := ?_)) | (refine xaQ (z := ?_)) | (refine xlQ (z := ?_)) | (refine xfQ (z := ?_)) | ((with_reducible refine Knd.binOp ?_); (first | (refine xiQ (z := ?_)) | (refine Exec.stab rfl (Stab.streq rfl rfl) rfl ?_))) | ((with_reducible refine Knd.box ?_); ((refine Exec.box rfl rfl (fun b => ?_)))))) | (with_reducible first | apply Tr.next | apply Tr.seq | apply Tr.region | apply Tr.nil | apply Tr.block) | (refine Tr.cond_t rfl (by first | (with_reducible assumption) | omega) ?_))
    rw [strE]
    by_cases hs : v.s.isEmpty = true
    · repeat (first | ((with_reducible refine Tr.step rfl ?_); (first | (refine xaQ (z := ?_)) | ((with_reducible refine Knd.pick ?_); ((refine Exec.stab rfl (Stab.pick_t rfl (by (with_reducible assumption)) rfl) rfl ?_))))) | (with_reducible first | apply Tr.next | apply Tr.nil) | ((refine Tr.guard_l rfl rfl rfl (by first | (with_reducible rfl) | (with_reducible assumption)) ?_); (first | (refine xlQ (z := ?_)) | (refine xfQ (z := ?_)) | (refine xnQ (z := ?_)) | (refine xiQ (z := ?_)))) | (with_reducible first | apply Tr.ret | apply Tr.then_ret | apply Tr.in_ret))
      (refine dnQ (hL := by exact ⟨[_], rfl⟩) (k := ⟨rfl, ?_⟩))
      exact ⟨by show Value.bool (decide ((v.l.length : Int) = 0)) = _; rw [lenE, hs]; rfl, rfl⟩
    · have hs : v.s.isEmpty = false := by simpa using hs
      repeat (first | ((with_reducible refine Tr.step rfl ?_); (first | (refine xaQ (z := ?_)) | ((with_reducible refine Knd.pick ?_); ((refine Exec.stab rfl (Stab.pick_f rfl (by (with_reducible assumption)) rfl) rfl ?_))))) | (with_reducible first | apply Tr.next | apply Tr.nil) | (refine Tr.guard_s1 rfl rfl rfl (by first | (with_reducible rfl) | (with_reducible assumption)) rfl rfl ?_) | (with_reducible first | apply Tr.ret | apply Tr.then_ret | apply Tr.in_ret))
      (refine dnQ (hL := by exact ⟨[_], rfl⟩) (k := ⟨rfl, ?_⟩))
      exact ⟨by rw [hs]; rfl, rfl⟩
  by_cases k2 : v.k = 2
  · rw [formed2 k2]
    refine Fn.intro Tryz.func92 rfl rfl Tryz.ntmps92 rfl fun E F => ?_
    by_cases hs : v.n = 0
    · repeat (first | ((with_reducible refine Tr.step rfl ?_); (first | (refine xmQ (z := ?_)) | (refine xaQ (z := ?_)) | (refine xlQ (z := ?_)) | (refine xfQ (z := ?_)) | (refine xiQ (z := ?_)) | ((with_reducible refine Knd.pick ?_); ((refine Exec.stab rfl (Stab.pick_td rfl (by first | (with_reducible assumption) | omega) rfl) rfl ?_))) | ((with_reducible refine Knd.box ?_); ((refine Exec.box rfl rfl (fun b => ?_)))))) | (with_reducible first | apply Tr.next | apply Tr.seq | apply Tr.region | apply Tr.nil) | ((refine Tr.guard_y rfl rfl rfl (by first | (with_reducible assumption) | omega) ?_); (first | (refine xlQ (z := ?_)) | (refine xfQ (z := ?_)) | (refine xnQ (z := ?_)) | (refine xiQ (z := ?_)))) | (with_reducible first | apply Tr.block | apply Tr.ret | apply Tr.then_ret | apply Tr.in_ret) | (refine Tr.cond_t rfl (by first | (with_reducible assumption) | omega) ?_) | (refine Tr.cond_f rfl (by first | (with_reducible assumption) | omega) ?_))
      (refine dnQ (hL := by exact ⟨[_], rfl⟩) (k := ⟨rfl, ?_⟩))
      exact ⟨by show Value.bool (decide ((v.l.length : Int) = 0)) = _; rw [lenE, decide_eq_true hs]; rfl, rfl⟩
    · repeat (first | ((with_reducible refine Tr.step rfl ?_); (first | (refine xmQ (z := ?_)) | (refine xaQ (z := ?_)) | (refine xlQ (z := ?_)) | (refine xfQ (z := ?_)) | (refine xiQ (z := ?_)) | ((with_reducible refine Knd.pick ?_); ((refine Exec.stab rfl (Stab.pick_fd rfl (by first | (with_reducible assumption) | omega) rfl) rfl ?_))) | ((with_reducible refine Knd.box ?_); ((refine Exec.box rfl rfl (fun b => ?_)))))) | (with_reducible first | apply Tr.next | apply Tr.seq | apply Tr.region | apply Tr.nil) | (refine Tr.guard_n rfl rfl rfl (by first | (with_reducible assumption) | omega) rfl rfl ?_) | (with_reducible first | apply Tr.block | apply Tr.ret | apply Tr.then_ret | apply Tr.in_ret) | (refine Tr.cond_t rfl (by first | (with_reducible assumption) | omega) ?_) | (refine Tr.cond_f rfl (by first | (with_reducible assumption) | omega) ?_))
      (refine dnQ (hL := by exact ⟨[_], rfl⟩) (k := ⟨rfl, ?_⟩))
      exact ⟨by rw [decide_eq_false hs]; rfl, rfl⟩
  by_cases k3 : v.k = 3
  rotate_left
  · rw [formed0 k1 k2 k3]
    refine Fn.intro Tryz.func92 rfl rfl Tryz.ntmps92 rfl fun E F => ?_
    repeat (first | ((with_reducible refine Tr.step rfl ?_); (first | (refine xaQ (z := ?_)) | (refine xlQ (z := ?_)) | (refine xfQ (z := ?_)) | (refine xiQ (z := ?_)) | ((with_reducible refine Knd.box ?_); ((refine Exec.box rfl rfl (fun b => ?_)))))) | (with_reducible first | apply Tr.next | apply Tr.seq | apply Tr.region | apply Tr.nil | apply Tr.skip | apply Tr.block | apply Tr.ret | apply Tr.in_normal) | (refine Tr.cond_f rfl (by first | (with_reducible assumption) | omega) ?_))
    (refine dnQ (hL := by exact ⟨[_], rfl⟩) (k := ⟨rfl, ?_⟩))
    exact ⟨rfl, rfl⟩
  rw [formed3 k3]
  refine Fn.intro Tryz.func92 rfl rfl Tryz.ntmps92 rfl fun E F => ?_
  repeat (first | ((with_reducible refine Tr.step rfl ?_); (first | (refine xaQ (z := ?_)) | (refine xlQ (z := ?_)) | (refine xfQ (z := ?_)) | (refine xiQ (z := ?_)) | ((with_reducible refine Knd.box ?_); ((refine Exec.box rfl rfl (fun b => ?_)))))) | (with_reducible first | apply Tr.next | apply Tr.seq | apply Tr.region | apply Tr.nil | apply Tr.block) | (refine Tr.cond_t rfl (by first | (with_reducible assumption) | omega) ?_) | (refine Tr.cond_f rfl (by first | (with_reducible assumption) | omega) ?_))
  refine Tr.loop (α := Nat) (fun i => ⟨52, [(3, .int .i64 i), (2, .bool false), (1, .pointer (some ⟨b, 0, none⟩))], [], M, box b 53 [.int .i64 v.k, .int .i64 v.n, .string ⟨v.s.toArray⟩, .slice A v.l.length c] :: ([] ++ F)⟩)
    (fun i => i ≤ v.l.length ∧ (v.l.take i).all formed = true) (fun i => v.l.length - i) 0 ⟨Nat.zero_le _, rfl⟩ hsQ (fun i hi => ?_)
  obtain ⟨hi, hall⟩ := hi
  by_cases hlt : i < v.l.length
  · obtain ⟨x, hx⟩ := get_of_lt hlt
    obtain ⟨hA1, ch, hat, hxv⟩ := hl.elem hx
    have hxl : x ∈ l := by rw [← hvl]; exact List.mem_of_getElem? hx
    obtain ⟨A1, c1, rfl, -⟩ := hxv.open_
    repeat (first | ((with_reducible refine Tr.step rfl ?_); (first | (refine xmQ (z := ?_)) | ((with_reducible refine Knd.load ?_); (first | (refine xlQ (z := ?_)) | (refine Exec.stab rfl (Stab.loadMA rfl (tysOk.get rfl) rfl (by assumption) rfl) rfl ?_))) | (refine xfQ (z := ?_)) | (refine xnQ (z := ?_)) | (refine xiQ (z := ?_)) | (refine xxQ (z := ?_)))) | (with_reducible first | apply Tr.next | apply Tr.seq | apply Tr.region | apply Tr.nil | apply Tr.skip | apply Tr.block) | (refine Tr.cond_t rfl (by first | (with_reducible assumption) | omega) ?_))
    ((refine Tr.step rfl ?_)); refine Exec.call0 rfl (ih x hxl _ ⟨_, rfl, hxv⟩) rfl ?_
    rintro _ _ _ ⟨rfl, rfl⟩
    cases hf : formed x
    · repeat (first | ((with_reducible refine Tr.step rfl ?_); (first | (refine xaQ (z := ?_)) | ((with_reducible refine Knd.unOp ?_); ((refine Exec.stab rfl (Stab.not rfl) rfl ?_))))) | (with_reducible first | apply Tr.next | apply Tr.seq | apply Tr.region | apply Tr.nil | apply Tr.ret | apply Tr.then_ret | apply Tr.in_ret) | (refine Tr.cond_bt rfl (by first | (with_reducible rfl) | (with_reducible exact Bool.not_false)) ?_))
      (refine dnQ (hL := by exact ⟨[_], rfl⟩) (k := ⟨rfl, ?_⟩))
      refine ⟨?_, rfl⟩
      have : v.l.all formed = false := by
        rw [List.all_eq_false]
        exact ⟨x, List.mem_of_getElem? hx, by simp [hf]⟩
      rw [this]; rfl
    · repeat (first | ((with_reducible refine Tr.step rfl ?_); (first | (refine xmQ (z := ?_)) | (refine xaQ (z := ?_)) | (refine xdQ (z := ?_)) | ((with_reducible refine Knd.unOp ?_); ((refine Exec.stab rfl (Stab.not rfl) rfl ?_))))) | (with_reducible first | apply Tr.next | apply Tr.region | apply Tr.nil | apply Tr.skip | apply Tr.in_normal) | (refine Tr.cond_bf rfl (by first | (with_reducible rfl) | (with_reducible exact Bool.not_true)) ?_))
      refine Tr.again (i + 1) ⟨by omega, ?_⟩ (by omega) hsQ
      rw [List.take_add_one, hx, List.all_append, hall]
      simp [hf]
  · have e : i = v.l.length := by omega
    subst e
    rw [List.take_length] at hall
    rw [hall, Bool.true_and]
    by_cases hs : v.n = 0
    · repeat (first | ((with_reducible refine Tr.step rfl ?_); (first | (refine xmQ (z := ?_)) | (refine xaQ (z := ?_)) | (refine xlQ (z := ?_)) | (refine xfQ (z := ?_)) | (refine xnQ (z := ?_)) | (refine xiQ (z := ?_)) | ((with_reducible refine Knd.pick ?_); ((refine Exec.stab rfl (Stab.pick_td rfl (by first | (with_reducible assumption) | omega) rfl) rfl ?_))))) | (with_reducible first | apply Tr.next | apply Tr.seq | apply Tr.region | apply Tr.nil) | ((refine Tr.guard_y rfl rfl rfl (by first | (with_reducible assumption) | omega) ?_); (first | (refine xlQ (z := ?_)) | (refine xfQ (z := ?_)) | ((with_reducible refine Knd.binOp ?_); ((refine Exec.stab rfl (Stab.streq rfl rfl) rfl ?_))))) | (with_reducible first | apply Tr.exit | apply Tr.ret | apply Tr.then_exit | apply Tr.then_ret | apply Tr.in_ret) | ((with_reducible refine Tr.in_exit ?_ ?_); (exact rfl)) | (refine Tr.cond_f rfl (by first | (with_reducible assumption) | omega) ?_))
      (refine dnQ (hL := by exact ⟨[_], rfl⟩) (k := ⟨rfl, ?_⟩))
      exact ⟨by show Value.bool (decide (({ data := v.s.toArray } : ByteArray).data.toList = ({ data := #[] } : ByteArray).data.toList)) = _; rw [strE, decide_eq_true hs]; rfl, rfl⟩
    · repeat (first | ((with_reducible refine Tr.step rfl ?_); (first | (refine xmQ (z := ?_)) | (refine xaQ (z := ?_)) | (refine xlQ (z := ?_)) | (refine xfQ (z := ?_)) | (refine xnQ (z := ?_)) | (refine xiQ (z := ?_)) | ((with_reducible refine Knd.pick ?_); ((refine Exec.stab rfl (Stab.pick_fd rfl (by first | (with_reducible assumption) | omega) rfl) rfl ?_))))) | (with_reducible first | apply Tr.next | apply Tr.seq | apply Tr.region | apply Tr.nil) | (refine Tr.guard_n rfl rfl rfl (by first | (with_reducible assumption) | omega) rfl rfl ?_) | (with_reducible first | apply Tr.exit | apply Tr.ret | apply Tr.then_exit | apply Tr.then_ret | apply Tr.in_ret) | ((with_reducible refine Tr.in_exit ?_ ?_); (exact rfl)) | (refine Tr.cond_f rfl (by first | (with_reducible assumption) | omega) ?_))
      (refine dnQ (hL := by exact ⟨[_], rfl⟩) (k := ⟨rfl, ?_⟩))
      exact ⟨by rw [decide_eq_false hs]; rfl, rfl⟩
set_option maxHeartbeats 2000000 in
theorem rcheck_fn (M : Mem) (v : Val) (r : Value) (h : RV M r v) (hd : depth v ≤ 1000000) : Fn0 Tryz.prog 46 [r] M (fun r M' => r = .int .i64 (chk v) ∧ M = M') := by
  obtain ⟨A, c, rfl, hR, -⟩ := h.open_
  refine Fn.intro Tryz.func46 rfl rfl Tryz.ntmps46 rfl fun E F => ?_
  repeat (first | ((with_reducible refine Tr.step rfl ?_); (first | (refine xaQ (z := ?_)) | (refine xwQ (z := ?_)) | ((with_reducible refine Knd.box ?_); ((refine Exec.box rfl rfl (fun b => ?_)))))) | (with_reducible first | apply Tr.next | apply Tr.seq | apply Tr.region | apply Tr.nil))
  ((refine Tr.step rfl ?_)); refine Exec.call0 rfl (rformed_fn M v _ hR) rfl ?_
  rintro _ _ _ ⟨rfl, rfl⟩
  unfold chk
  cases hf : formed v
  · repeat (first | ((with_reducible refine Tr.step rfl ?_); (first | (refine xaQ (z := ?_)) | ((with_reducible refine Knd.unOp ?_); ((refine Exec.stab rfl (Stab.not rfl) rfl ?_))))) | (with_reducible first | apply Tr.next | apply Tr.seq | apply Tr.region | apply Tr.nil | apply Tr.ret | apply Tr.then_ret) | (refine Tr.cond_bt rfl (by first | (with_reducible rfl) | (with_reducible exact Bool.not_false)) ?_))
    (refine dnQ (hL := by exact ⟨[_], rfl⟩) (k := ⟨rfl, ?_⟩))
    exact ⟨rfl, rfl⟩
  repeat (first | ((with_reducible refine Tr.step rfl ?_); (first | (refine xwQ (z := ?_)) | ((with_reducible refine Knd.unOp ?_); ((refine Exec.stab rfl (Stab.not rfl) rfl ?_))))) | (with_reducible first | apply Tr.next | apply Tr.seq | apply Tr.region | apply Tr.nil | apply Tr.skip) | (refine Tr.cond_bf rfl (by first | (with_reducible rfl) | (with_reducible exact Bool.not_true)) ?_))
  ((refine Tr.step rfl ?_)); refine Exec.call0 rfl (rdepth_fn M v _ hR hd) rfl ?_
  rintro _ _ _ ⟨rfl, rfl⟩
  by_cases h16 : depth v ≤ 16
  · rw [if_pos h16]
    repeat (first | ((with_reducible refine Tr.step rfl ?_); (first | (refine xaQ (z := ?_)) | (refine xiQ (z := ?_)))) | (with_reducible first | apply Tr.next | apply Tr.seq | apply Tr.region | apply Tr.nil | apply Tr.skip | apply Tr.ret) | (refine Tr.cond_f rfl (by first | (with_reducible assumption) | omega) ?_))
    (refine dnQ (hL := by exact ⟨[_], rfl⟩) (k := ⟨rfl, ?_⟩))
    exact ⟨rfl, rfl⟩
  · rw [if_neg h16]
    repeat (first | ((with_reducible refine Tr.step rfl ?_); (first | (refine xaQ (z := ?_)) | (refine xiQ (z := ?_)))) | (with_reducible first | apply Tr.next | apply Tr.seq | apply Tr.region | apply Tr.nil | apply Tr.ret | apply Tr.then_ret) | (refine Tr.cond_t rfl (by first | (with_reducible assumption) | omega) ?_))
    (refine dnQ (hL := by exact ⟨[_], rfl⟩) (k := ⟨rfl, ?_⟩))
    exact ⟨rfl, rfl⟩
end Go.Proofs.YtghjhdbmkilakaaGreatDoor

/-
  The codec: the contracts of the reference's encode, Encode, Size and Same.
  Conditions: none.
-/
namespace Go.Proofs.YtghjhdbmkilakaaGreatDoor
open Go Bf
attribute [local irreducible] Tr Exec Stab HasTy Go.Addr.add IntKind.wrap
set_option maxHeartbeats 4000000 in
theorem rencode_fn : ∀ (v : Val) (M0 : Mem) (r : Value), RV M0 r v → formed v = true → (enc v).length ≤ 1000000000000 →
    Fn0 Tryz.prog 47 [r] M0 (fun r M' => ∃ A c, r = .slice A (enc v).length c ∧ BSl M' (.slice A (enc v).length c) (enc v)) := by
  intro v
  induction v using Val.ind with
  | h k n s l ih =>
  intro M0 r hr
  generalize hv : Val.mk k n s l = v at hr ⊢
  have hvl : v.l = l := by rw [← hv]; rfl
  intro hf hlen
  obtain ⟨A, c, rfl, hR, hl, hk, hn, hs⟩ := hr.open_
  have hll := hl.len_le
  rcases formed_k hf with h1 | h2 | h3
  · rw [enc1 h1]
    have hz := zz_lt hn
    have hnl := num_len_le hz
    refine Fn.intro Tryz.func47 rfl rfl Tryz.ntmps47 rfl fun E F => ?_
    repeat (first | ((with_reducible refine Tr.step rfl ?_); (first | (refine xaQ (z := ?_)) | (refine xlQ (z := ?_)) | (refine xfQ (z := ?_)) | (refine xiQ (z := ?_)) | ((with_reducible refine Knd.box ?_); ((refine Exec.box rfl rfl (fun b => ?_)))) | ((with_reducible refine Knd.buildSlice ?_); (refine Exec.buildSlice (tysOk.get rfl) rfl (tysOk.get rfl) rfl rfl rfl rfl rfl (by repeat (first | exact BuildP.nil | ((apply BuildP.one); (rfl); (rfl); (first | rfl | assumption); (repeat (first | exact SetL.z | apply SetL.s))))) rfl (fun b => ?_))))) | (with_reducible first | apply Tr.next | apply Tr.seq | apply Tr.region | apply Tr.nil | apply Tr.block) | (refine Tr.cond_t rfl (by first | (with_reducible assumption) | omega) ?_))
    ((refine Tr.step rfl ?_)); refine Exec.call0 rfl (runsigned_fn M0 v.n hn) rfl ?_
    rintro _ _ _ ⟨rfl, rfl⟩
    ((refine Tr.step rfl ?_)); refine Exec.call0 rfl (rnumeral_fn M0 (zz v.n) hz) rfl ?_
    rintro _ M1 hm1 ⟨A1, c1, rfl, hb1⟩
    have hcap := hb1.cap
    refine Tr.cells (cs' := byteV [1]) (by repeat (first | exact Upd.here | apply Upd.there)) rfl ?_
    refine Tr.box_own 1 1 (by repeat (first | exact Upd.here | apply Upd.there)) rfl (byteV_one _) (by simp [maxLen]) ?_
    ((refine Tr.step rfl ?_))
    refine Exec.append (news := byteV (num (zz v.n))) rfl rfl (tysOk.get rfl) rfl (tysOk.get rfl) rfl rfl rfl rfl (by repeat (first | exact Del.here | apply Del.there)) (Src.row hcap.2.2.2) (by simp) (byteV_one _) (by omega) (by omega) rfl (fun A2 c2 hc2 => ?_)
    rw [← byteV_append]
    have e : 1 + (num (zz v.n)).length = ([1] ++ num (zz v.n)).length := by simp; omega
    rw [e]
    repeat (first | ((with_reducible refine Tr.step rfl ?_); ((refine xaQ (z := ?_)))) | (with_reducible first | apply Tr.next | apply Tr.nil | apply Tr.ret | apply Tr.then_ret | apply Tr.in_ret))
    refine pbQ (r := ownS 5 1 _ _ _ _) (k := fun M' hm hok => ?_)
    have hmz := hm1.trans hm
    (refine dnQ (hL := by exact ⟨[_], rfl⟩) (k := ⟨rfl, ?_⟩))
    exact ⟨A2, c2, rfl, BSl.ofOwn hok rfl hc2⟩
  · rw [enc2 h2] at hlen ⊢
    have hsl : v.s.length ≤ 1000000000000 := by simp at hlen; omega
    have hz : v.s.length < 2 ^ 64 := by omega
    have hnl := num_len_le hz
    refine Fn.intro Tryz.func47 rfl rfl Tryz.ntmps47 rfl fun E F => ?_
    repeat (first | ((with_reducible refine Tr.step rfl ?_); (first | (refine xaQ (z := ?_)) | (refine xlQ (z := ?_)) | (refine xfQ (z := ?_)) | (refine xiQ (z := ?_)) | ((with_reducible refine Knd.box ?_); ((refine Exec.box rfl rfl (fun b => ?_)))))) | (with_reducible first | apply Tr.next | apply Tr.seq | apply Tr.region | apply Tr.nil | apply Tr.block) | (refine Tr.cond_t rfl (by first | (with_reducible assumption) | omega) ?_) | (refine Tr.cond_f rfl (by first | (with_reducible assumption) | omega) ?_))
    refine Tr.cut (α := Option Addr × Nat × Mem) (fun x => ⟨50, [(2, .slice x.1 (2 :: (num v.s.length ++ v.s)).length x.2.1)], [], x.2.2, [] ++ F⟩) (fun x => Mem.le M0 x.2.2 ∧ BSl x.2.2 (.slice x.1 (2 :: (num v.s.length ++ v.s)).length x.2.1) (2 :: (num v.s.length ++ v.s))) ?_ (fun x hx => ?_)
    · (((apply Tr.draw); (kernel_rfl)); (refine tkQ 1 (hB := by exact fun _ h => h) (s := by exact sfQ) (h := ?_)); (refine tkQ 7 (s := by exact sfQ) (h := ?_)); (refine tkQ 2 (s := by exact slQ) (h := ?_)); (refine tkQ 8 (s := by exact slQ) (h := ?_)); (refine tkQ 3 (s := by exact Stab.lensL rfl (tysOk.get rfl) rfl) (h := ?_)); (refine tkQ 4 (s := by exact Stab.convu64 rfl (tysOk.get rfl) (tysOk.get rfl) rfl rfl (by omega)) (h := ?_)); (refine TrA.eff2 0 5 rfl rfl (by kernel_rfl) (by exact .inl rfl) (by exact .inl rfl) ?_ ?_))
      · ((((refine Knd.buildSlice ?_); (refine Exec.buildSlice (tysOk.get rfl) rfl (tysOk.get rfl) rfl rfl rfl rfl rfl (by repeat (first | exact BuildP.nil | ((apply BuildP.one); (rfl); (rfl); (first | rfl | assumption); (repeat (first | exact SetL.z | apply SetL.s))))) rfl (fun b => ?_)))); (refine ⟨(by first | exact Mem.le.refl _ | assumption), (by exact (Sub.mem (by repeat (first | exact Sub.refl | apply Sub.cons)))), ?_⟩))
        ((refine TrA.eff 5 rfl (by kernel_rfl) (by exact .inl rfl) ?_))
        refine Exec.call0 rfl (rnumeral_fn M0 v.s.length hz) rfl ?_
        rintro _ M1 hm1 ⟨A1, c1, rfl, hb1⟩
        refine ⟨hm1, (by exact (Sub.mem (by repeat (first | exact Sub.refl | apply Sub.cons)))), ?_⟩
        have hcap := hb1.cap
        refine TrA.via (fun X h => Tr.cells (cs' := byteV [2]) (by repeat (first | exact Upd.here | apply Upd.there)) rfl h) ?_
        refine TrA.via (fun X h => Tr.box_own 1 1 (by repeat (first | exact Upd.here | apply Upd.there)) rfl (byteV_one _) (by simp [maxLen]) h) ?_
        ((refine TrA.eff 6 rfl (by kernel_rfl) (by exact .inl rfl) ?_))
        refine Exec.append (news := byteV (num v.s.length)) rfl rfl (tysOk.get rfl) rfl (tysOk.get rfl) rfl rfl rfl rfl (by repeat (first | exact Del.here | apply Del.there)) (Src.row hcap.2.2.2) (by simp) (byteV_one _) (by omega) (by omega) rfl (fun A2 c2 hc2 => ?_)
        refine ⟨Mem.le.refl _, (by exact (Sub.mem (by repeat (first | exact Sub.refl | apply Sub.cons)))), ?_⟩
        rw [← byteV_append]
        ((refine TrA.eff 9 rfl (by kernel_rfl) (by exact .inl rfl) ?_))
        refine Exec.appendStr (l := v.s) rfl rfl (tysOk.get rfl) rfl (tysOk.get rfl) rfl (tysOk.get rfl) rfl rfl rfl (by repeat (first | exact Del.here | apply Del.there)) (by omega) rfl (fun A4 c4 hc4 => ?_)
        refine ⟨Mem.le.refl _, (by exact (Sub.mem (by repeat (first | exact Sub.refl | apply Sub.cons)))), ?_⟩
        have e1 : 1 + (num v.s.length).length + v.s.length = (2 :: (num v.s.length ++ v.s)).length := by simp; omega
        have e2 : [2] ++ num v.s.length ++ v.s = 2 :: (num v.s.length ++ v.s) := by simp
        rw [← byteV_append, e1, e2]
        ((refine tkQ 10 (s := by exact Stab.assign rfl) (h := ?_)); (refine TrA.done (by kernel_rfl) ?_))
        refine pbQ (r := ownS 5 1 _ _ _ _) (k := fun M' hm hok => ?_)
        refine Tr.land (A4, c4, M') ⟨hm1.trans hm, BSl.ofOwn hok rfl hc4⟩ hsQ
      · refine Exec.call0 rfl (rnumeral_fn M0 v.s.length hz) rfl ?_
        rintro _ M1 hm1 ⟨A1, c1, rfl, hb1⟩
        refine ⟨hm1, (by exact fun _ h => h), ?_⟩
        have hcap := hb1.cap
        ((refine TrA.eff 0 rfl (by kernel_rfl) (by exact .inl rfl) ?_); (((refine Knd.buildSlice ?_); (refine Exec.buildSlice (tysOk.get rfl) rfl (tysOk.get rfl) rfl rfl rfl rfl rfl (by repeat (first | exact BuildP.nil | ((apply BuildP.one); (rfl); (rfl); (first | rfl | assumption); (repeat (first | exact SetL.z | apply SetL.s))))) rfl (fun b => ?_)))); (refine ⟨(by first | exact Mem.le.refl _ | assumption), (by exact (Sub.mem (by repeat (first | exact Sub.refl | apply Sub.cons)))), ?_⟩))
        refine TrA.via (fun X h => Tr.cells (cs' := byteV [2]) (by repeat (first | exact Upd.here | apply Upd.there)) rfl h) ?_
        refine TrA.via (fun X h => Tr.box_own 1 1 (by repeat (first | exact Upd.here | apply Upd.there)) rfl (byteV_one _) (by simp [maxLen]) h) ?_
        ((refine TrA.eff 6 rfl (by kernel_rfl) (by exact .inl rfl) ?_))
        refine Exec.append (news := byteV (num v.s.length)) rfl rfl (tysOk.get rfl) rfl (tysOk.get rfl) rfl rfl rfl rfl (by repeat (first | exact Del.here | apply Del.there)) (Src.row hcap.2.2.2) (by simp) (byteV_one _) (by omega) (by omega) rfl (fun A2 c2 hc2 => ?_)
        refine ⟨Mem.le.refl _, (by exact (Sub.mem (by repeat (first | exact Sub.refl | apply Sub.cons)))), ?_⟩
        rw [← byteV_append]
        ((refine TrA.eff 9 rfl (by kernel_rfl) (by exact .inl rfl) ?_))
        refine Exec.appendStr (l := v.s) rfl rfl (tysOk.get rfl) rfl (tysOk.get rfl) rfl (tysOk.get rfl) rfl rfl rfl (by repeat (first | exact Del.here | apply Del.there)) (by omega) rfl (fun A4 c4 hc4 => ?_)
        refine ⟨Mem.le.refl _, (by exact (Sub.mem (by repeat (first | exact Sub.refl | apply Sub.cons)))), ?_⟩
        have e1 : 1 + (num v.s.length).length + v.s.length = (2 :: (num v.s.length ++ v.s)).length := by simp; omega
        have e2 : [2] ++ num v.s.length ++ v.s = 2 :: (num v.s.length ++ v.s) := by simp
        rw [← byteV_append, e1, e2]
        ((refine tkQ 10 (s := by exact Stab.assign rfl) (h := ?_)); (refine TrA.done (by kernel_rfl) ?_))
        refine pbQ (r := ownS 5 1 _ _ _ _) (k := fun M' hm hok => ?_)
        refine Tr.land (A4, c4, M') ⟨hm1.trans hm, BSl.ofOwn hok rfl hc4⟩ hsQ
    obtain ⟨A4, c4, M4⟩ := x
    obtain ⟨hm4, hb4⟩ := hx
    dsimp only at hm4 hb4 ⊢
    repeat (first | (with_reducible first | apply Tr.next | apply Tr.ret | apply Tr.then_ret | apply Tr.in_ret))
    (refine dnQ (hL := by exact ⟨[], rfl⟩) (k := ⟨rfl, ?_⟩))
    exact ⟨A4, c4, rfl, hb4⟩
  · rw [enc3 h3] at hlen ⊢
    have hel : (encL v.l).length ≤ 1000000000000 := by simp at hlen; omega
    have hz : v.l.length < 2 ^ 64 := by omega
    have hnl := num_len_le hz
    refine Fn.intro Tryz.func47 rfl rfl Tryz.ntmps47 rfl fun E F => ?_
    repeat (first | ((with_reducible refine Tr.step rfl ?_); (first | (refine xaQ (z := ?_)) | (refine xlQ (z := ?_)) | (refine xfQ (z := ?_)) | (refine xnQ (z := ?_)) | (refine xiQ (z := ?_)) | ((with_reducible refine Knd.box ?_); ((refine Exec.box rfl rfl (fun b => ?_)))) | ((with_reducible refine Knd.convert ?_); ((refine Exec.stab rfl (Stab.convu64 rfl (tysOk.get rfl) (tysOk.get rfl) rfl rfl (by omega)) rfl ?_))) | ((with_reducible refine Knd.buildSlice ?_); (refine Exec.buildSlice (tysOk.get rfl) rfl (tysOk.get rfl) rfl rfl rfl rfl rfl (by repeat (first | exact BuildP.nil | ((apply BuildP.one); (rfl); (rfl); (first | rfl | assumption); (repeat (first | exact SetL.z | apply SetL.s))))) rfl (fun b => ?_))))) | (with_reducible first | apply Tr.next | apply Tr.seq | apply Tr.region | apply Tr.nil | apply Tr.skip | apply Tr.block | apply Tr.in_normal) | (refine Tr.cond_f rfl (by first | (with_reducible assumption) | omega) ?_))
    rename_i b24
    ((refine Tr.step rfl ?_)); refine Exec.call0 rfl (rnumeral_fn M0 v.l.length hz) rfl ?_
    rintro _ M1 hm1 ⟨A1, c1, rfl, hb1⟩
    have hcap := hb1.cap
    refine Tr.cells (cs' := byteV [3]) (by repeat (first | exact Upd.here | apply Upd.there)) rfl ?_
    refine Tr.box_own 1 1 (by repeat (first | exact Upd.here | apply Upd.there)) rfl (byteV_one _) (by simp [maxLen]) ?_
    ((refine Tr.step rfl ?_))
    refine Exec.append (news := byteV (num v.l.length)) rfl rfl (tysOk.get rfl) rfl (tysOk.get rfl) rfl rfl rfl rfl (by repeat (first | exact Del.here | apply Del.there)) (Src.row hcap.2.2.2) (by simp) (byteV_one _) (by omega) (by omega) rfl (fun A2 c2 hc2 => ?_)
    rw [← byteV_append]
    have e : 1 + (num v.l.length).length = ([3] ++ num v.l.length).length := by simp; omega
    rw [e]
    repeat (first | ((with_reducible refine Tr.step rfl ?_); ((refine xaQ (z := ?_)))) | (with_reducible first | apply Tr.next | apply Tr.seq | apply Tr.region | apply Tr.nil | apply Tr.block))
    have hw : ∃ ws : Nat → List UInt8, ∀ i, ws i = 3 :: (num v.l.length ++ encL (v.l.take i)) := ⟨_, fun _ => rfl⟩
    obtain ⟨ws, hws⟩ := hw
    have hwl : ∀ i, (ws i).length = 1 + (num v.l.length).length + (encL (v.l.take i)).length := fun i => by rw [hws]; simp; omega
    have hw0 : [3] ++ num v.l.length = ws 0 := by rw [hws]; simp [encL]
    rw [hw0]
    refine Tr.loop (α := Nat × Mem × Option Addr × Nat) (fun x => ⟨50, [(4, .int .i64 x.1), (3, .slice x.2.2.1 (ws x.1).length x.2.2.2), (2, .slice none 0 0), (1, .pointer (some ⟨b24, 0, none⟩))], [], x.2.1, ownS 5 1 x.2.2.1 (ws x.1).length x.2.2.2 (byteV (ws x.1)) :: box b24 53 [.int .i64 v.k, .int .i64 v.n, .string ⟨v.s.toArray⟩, .slice A v.l.length c] :: ([] ++ F)⟩)
      (fun x => x.1 ≤ v.l.length ∧ Mem.le M1 x.2.1 ∧ x.2.2.2 ≤ 9223372036854775807) (fun x => v.l.length - x.1) (0, M1, A2, c2) ⟨Nat.zero_le _, Mem.le.refl _, hc2⟩ hsQ (fun x hi => ?_)
    obtain ⟨i, M2, A4, c4⟩ := x
    obtain ⟨hi, hm2, hc4⟩ := hi
    simp only at hi hm2 hc4
    dsimp only
    have hm02 := hm1.trans hm2
    have htl := encL_take_le v.l i
    by_cases hlt : i < v.l.length
    · obtain ⟨x, hx⟩ := get_of_lt hlt
      have hl2 := hl.mono (fun M M' c x => RVal.mono' M M' c x) hm02
      obtain ⟨hA1, ch1, hat1, hxv⟩ := hl2.elem hx
      have hxm := List.mem_of_getElem? hx
      have hxl : x ∈ l := by rw [← hvl]; exact hxm
      have hxf := formed_mem hf hxm
      have htl2 := encL_take_le v.l (i + 1)
      have hen : (encL (v.l.take (i + 1))).length = (encL (v.l.take i)).length + (enc x).length := by rw [encL_take hx]; simp
      have hx1 := ih x hxl M2 _ ⟨_, rfl, hxv⟩ hxf (by omega)
      have hww : ws i ++ enc x = ws (i + 1) := by rw [hws, hws, encL_take hx]; simp
      obtain ⟨A5, c5, rfl, -⟩ := hxv.open_
      repeat (first | ((with_reducible refine Tr.step rfl ?_); (first | (refine xmQ (z := ?_)) | ((with_reducible refine Knd.load ?_); (first | (refine xlQ (z := ?_)) | (refine Exec.stab rfl (Stab.loadMA rfl (tysOk.get rfl) rfl (by assumption) rfl) rfl ?_))) | (refine xfQ (z := ?_)) | (refine xnQ (z := ?_)) | (refine xiQ (z := ?_)) | (refine xxQ (z := ?_)))) | (with_reducible first | apply Tr.next | apply Tr.seq | apply Tr.region | apply Tr.nil | apply Tr.skip | apply Tr.block) | (refine Tr.cond_t rfl (by first | (with_reducible assumption) | omega) ?_))
      ((refine Tr.step rfl ?_)); refine Exec.call0 rfl (hx1) rfl ?_
      rintro _ M5 hm5 ⟨A6, c6, rfl, hb6⟩
      have hcap6 := hb6.cap
      ((refine Tr.step rfl ?_))
      refine Exec.append (news := byteV (enc x)) rfl rfl (tysOk.get rfl) rfl (tysOk.get rfl) rfl rfl rfl rfl (by repeat (first | exact Del.here | apply Del.there)) (Src.row hcap6.2.2.2) (by simp) (byteV_one _) (by rw [hwl]; omega) (by rw [hwl]; omega) rfl (fun A7 c7 hc7 => ?_)
      rw [← byteV_append, hww, show (ws i).length + (enc x).length = (ws (i + 1)).length by rw [← hww]; simp]
      repeat (first | ((with_reducible refine Tr.step rfl ?_); (first | (refine xmQ (z := ?_)) | (refine xaQ (z := ?_)) | (refine xdQ (z := ?_)))) | (with_reducible first | apply Tr.next | apply Tr.region | apply Tr.nil | apply Tr.in_normal))
      refine Tr.again (i + 1, M5, A7, c7) ⟨by simp only; omega, hm2.trans hm5, hc7⟩ (by simp only; omega) hsQ
    · have e : i = v.l.length := by omega
      subst e
      have hwe : ws v.l.length = 3 :: (num v.l.length ++ encL v.l) := by rw [hws, List.take_length]
      rw [hwe]
      repeat (first | ((with_reducible refine Tr.step rfl ?_); (first | (refine xmQ (z := ?_)) | (refine xaQ (z := ?_)) | (refine xlQ (z := ?_)) | (refine xfQ (z := ?_)) | (refine xnQ (z := ?_)) | (refine xiQ (z := ?_)))) | (with_reducible first | apply Tr.next | apply Tr.seq | apply Tr.region | apply Tr.nil | apply Tr.exit | apply Tr.ret | apply Tr.then_exit) | ((with_reducible refine Tr.in_exit ?_ ?_); (exact rfl)) | (refine Tr.cond_f rfl (by first | (with_reducible assumption) | omega) ?_))
      refine pbQ (r := ownS 5 1 _ _ _ _) (k := fun M' hm hok => ?_)
      have hmz := hm02.trans hm
      (refine dnQ (hL := by exact ⟨[_], rfl⟩) (k := ⟨rfl, ?_⟩))
      exact ⟨A4, c4, rfl, BSl.ofOwn hok rfl hc4⟩
set_option maxHeartbeats 1000000 in
theorem rEncode_fn (M : Mem) (v : Val) (r : Value) (h : RV M r v) (hd : depth v ≤ 1000000) (hl : (enc v).length ≤ 1000000000000) :
    Fn0 Tryz.prog 20 [r] M (fun r M' => ∃ B k, r = .tuple #[.slice B (encF v).length k, .int .i64 (chk v)] ∧ BSl M' (.slice B (encF v).length k) (encF v)) := by
  obtain ⟨A, c, rfl, hR, -⟩ := h.open_
  refine Fn.intro Tryz.func20 rfl rfl Tryz.ntmps20 rfl fun E F => ?_
  repeat (first | ((with_reducible refine Tr.step rfl ?_); (first | (refine xaQ (z := ?_)) | (refine xwQ (z := ?_)) | ((with_reducible refine Knd.box ?_); ((refine Exec.box rfl rfl (fun b => ?_)))))) | (with_reducible first | apply Tr.next | apply Tr.seq | apply Tr.region | apply Tr.nil))
  ((refine Tr.step rfl ?_)); refine Exec.call0 rfl (rcheck_fn M v _ hR hd) rfl ?_
  rintro _ _ _ ⟨rfl, rfl⟩
  by_cases hc : chk v = 0
  · have hf := chk_formed hc
    rw [show encF v = enc v by unfold encF; rw [if_pos hc]]
    repeat (first | ((with_reducible refine Tr.step rfl ?_); (first | (refine xmQ (z := ?_)) | (refine xaQ (z := ?_)) | (refine xwQ (z := ?_)) | (refine xiQ (z := ?_)))) | (with_reducible first | apply Tr.next | apply Tr.seq | apply Tr.region | apply Tr.nil | apply Tr.skip) | (refine Tr.cond_f rfl (by first | (with_reducible assumption) | omega) ?_))
    ((refine Tr.step rfl ?_)); refine Exec.call0 rfl (rencode_fn v M _ hR hf hl) rfl ?_
    rintro _ M1 hm1 ⟨B, k, rfl, hb⟩
    repeat (first | ((with_reducible refine Tr.step rfl ?_); ((refine xaQ (z := ?_)))) | (with_reducible first | apply Tr.next | apply Tr.nil | apply Tr.ret))
    (refine dnQ (hL := by exact ⟨[_], rfl⟩) (k := ⟨rfl, ?_⟩))
    exact ⟨B, k, by rw [hc]; rfl, hb⟩
  · rw [show encF v = [] by unfold encF; rw [if_neg hc]]
    repeat (first | ((with_reducible refine Tr.step rfl ?_); (first | (refine xmQ (z := ?_)) | (refine xaQ (z := ?_)) | (refine xiQ (z := ?_)))) | (with_reducible first | apply Tr.next | apply Tr.seq | apply Tr.region | apply Tr.nil | apply Tr.ret | apply Tr.then_ret) | (refine Tr.cond_t rfl (by first | (with_reducible assumption) | omega) ?_))
    (refine dnQ (hL := by exact ⟨[_], rfl⟩) (k := ⟨rfl, ?_⟩))
    exact ⟨none, 0, rfl, BSl.nil _⟩
end Go.Proofs.YtghjhdbmkilakaaGreatDoor

/-
  Frames: the reference's Pack.
  Conditions: none.
-/
namespace Go.Proofs.YtghjhdbmkilakaaGreatDoor
open Go Bf
attribute [local irreducible] Tr Exec Stab HasTy Go.Addr.add IntKind.wrap
attribute [local irreducible] encFr
set_option maxHeartbeats 4000000 in
theorem rpack_fn (M : Mem) (m : Msg) (u : List Value) (hp : RMsg M u m) :
    Fn0 Tryz.prog 7 [.agg u.toArray] M (fun r M' => RBE M' r (packF TF m)) := by
  have hp0 := hp
  obtain ⟨⟨a0, a1, a2, a3, a4, a5, a6, A, c, B, d, C, e, pe, rfl, p1, p2, p3⟩, pw, pk⟩ := hp
  have psl2 : (byteV m.sl).length = 32 := by simpa using pw.1
  have hcl : (Value.int .i64 m.kind :: .int .i64 a0 :: .int .i64 a1 :: .int .i64 a2 :: .int .i64 a3 :: .int .i64 a4 :: .int .i64 a5 :: .int .i64 a6 :: .slice A m.labels.length c :: .slice B m.verdicts.length d :: .slice C m.rels.length e :: byteV m.sl).length = 43 := by simp only [List.length_cons, psl2]
  refine Fn.intro Tryz.func7 rfl rfl Tryz.ntmps7 rfl fun E F => ?_
  (repeat (first | ((with_reducible refine Tr.step rfl ?_); (first | (refine xaQ (z := ?_)) | ((with_reducible refine Knd.load ?_); (refine Exec.stab rfl (Stab.loadW rfl (tysOk.get rfl) rfl (by repeat (first | exact Has.here | apply Has.there)) (by assumption)) rfl ?_)) | ((with_reducible refine Knd.box ?_); (refine Exec.box rfl rfl (fun b => ?_))))) | (with_reducible first | apply Tr.next | apply Tr.seq | apply Tr.region | apply Tr.nil)))
  generalize b = b1
  ((refine Tr.step rfl ?_)); refine Exec.call0 rfl (rright_fn M m _ hp0) rfl ?_
  rintro _ _ _ ⟨rfl, rfl⟩
  by_cases hr : rightM m
  rotate_left
  · rw [decide_eq_false hr, packF, if_neg (fun h => hr h.1)]
    (repeat (first | ((with_reducible refine Tr.step rfl ?_); (first | (refine xaQ (z := ?_)) | ((with_reducible refine Knd.unOp ?_); (refine Exec.stab rfl (Stab.not rfl) rfl ?_)))) | (with_reducible first | apply Tr.next | apply Tr.seq | apply Tr.region | apply Tr.nil | apply Tr.ret | apply Tr.then_ret) | (refine Tr.cond_bt rfl (by first | (with_reducible rfl) | (with_reducible assumption) | (with_reducible exact Bool.not_true) | (with_reducible exact Bool.not_false)) ?_)))
    (refine dnQ (hL := by exact ⟨[_], rfl⟩) (k := ⟨rfl, ?_⟩))
    exact ⟨none, 0, rfl, BSl.nil _⟩
  rw [decide_eq_true hr]
  have hl := enc_msg_le hr pw
  have hd := depth_msg m
  have hc0 := chk_msg m
  have hef : encF (msgV m) = enc (msgV m) := by unfold encF; rw [if_pos hc0]
  (repeat (first | ((with_reducible refine Tr.step rfl ?_); (first | ((with_reducible refine Knd.load ?_); (refine Exec.stab rfl (Stab.loadW rfl (tysOk.get rfl) rfl (by repeat (first | exact Has.here | apply Has.there)) (by assumption)) rfl ?_)) | ((with_reducible refine Knd.unOp ?_); (refine Exec.stab rfl (Stab.not rfl) rfl ?_)))) | (with_reducible first | apply Tr.next | apply Tr.seq | apply Tr.region | apply Tr.nil | apply Tr.skip) | (refine Tr.cond_bf rfl (by first | (with_reducible rfl) | (with_reducible assumption) | (with_reducible exact Bool.not_true) | (with_reducible exact Bool.not_false)) ?_)))
  ((refine Tr.step rfl ?_)); refine Exec.call0 rfl (rmsgv_fn M m _ hp0 hr) rfl ?_
  intro r1 M1 hm1 hV
  (skip)
  ((refine Tr.step rfl ?_)); refine Exec.call0 rfl (rEncode_fn M1 (msgV m) r1 hV (by omega) (by omega)) rfl ?_
  rintro _ M2 hm2 ⟨A2, k2, rfl, hB⟩
  rw [hc0, hef]
  rw [hef] at hB
  have hm02 := hm1.trans hm2
  have hpk : packF TF m = encFr ⟨m.kind, enc (msgV m)⟩ := by
    have hk := hr.1
    by_cases c1 : (enc (msgV m)).length ≤ 65536
    · rw [packF, if_pos ⟨hr, c1⟩, encFr, if_pos ⟨⟨by show (0 : Int) ≤ m.kind; omega, by show m.kind ≤ 255; omega⟩, by show (enc (msgV m)).length ≤ 65536; omega⟩]
    · rw [packF, if_neg (fun h => c1 h.2), encFr, if_neg (fun h => c1 h.2)]
  rw [hpk]
  (repeat (first | ((with_reducible refine Tr.step rfl ?_); (first | (refine xmQ (z := ?_)) | (refine xaQ (z := ?_)) | (refine xlQ (z := ?_)) | (refine xfQ (z := ?_)) | ((with_reducible refine Knd.extract ?_); (refine Exec.stab rfl (Stab.extract rfl rfl) rfl ?_)) | ((with_reducible refine Knd.build ?_); (refine Exec.stab rfl (Stab.build tysOk rfl rfl rfl rfl (by repeat (first | exact BuildP.nil | ((apply BuildP.one); (rfl); (rfl); (first | rfl | assumption); (repeat (first | exact SetL.z | apply SetL.s))) | ((apply BuildP.many); (rfl); (rfl); (rfl); (rfl); (repeat (first | exact PutL.nil | ((apply PutL.cons); (repeat (first | exact SetL.z | apply SetL.s))))))))) rfl ?_)))) | (with_reducible first | apply Tr.next | apply Tr.seq | apply Tr.region | apply Tr.nil)))
  ((refine Tr.step rfl ?_)); refine Exec.call0 rfl (rencode_fr M2 A2 k2 ⟨m.kind, enc (msgV m)⟩ hB) rfl ?_
  rintro _ M3 hm3 ⟨A3, k3, rfl, hB3⟩
  have hm03 := hm02.trans hm3
  (repeat (first | ((with_reducible refine Tr.step rfl ?_); (first | (refine xaQ (z := ?_)) | ((with_reducible refine Knd.extract ?_); (refine Exec.stab rfl (Stab.extract rfl rfl) rfl ?_)))) | (with_reducible first | apply Tr.next | apply Tr.nil | apply Tr.ret)))
  (refine dnQ (hL := by exact ⟨[_], rfl⟩) (k := ⟨rfl, ?_⟩))
  exact ⟨A3, k3, rfl, hB3⟩
end Go.Proofs.YtghjhdbmkilakaaGreatDoor

/-
  The codec: the reference's reader; the contracts of next and number.
  Conditions: none.
-/
namespace Go.Proofs.YtghjhdbmkilakaaGreatDoor
open Go Bf
attribute [local irreducible] Tr Exec Stab HasTy Go.Addr.add IntKind.wrap
/-- the reference's reader -/
def rdr (p : Nat) (A : Option Addr) (n c at_ : Nat) (bad : Bool) : Res := box p 113 [.slice A n c, .int .i64 (at_ : Int), .bool bad]
theorem drop_cons {bs : List UInt8} {i : Nat} {x : UInt8} (h : bs[i]? = some x) : bs.drop i = x :: bs.drop (i + 1) := by
  obtain ⟨hl, e⟩ := List.getElem?_eq_some_iff.1 h
  rw [List.drop_eq_getElem_cons hl, e]
set_option maxHeartbeats 1000000 in
theorem next_fn (M : Mem) (p : Nat) (A : Option Addr) (c : Nat) (bs : List UInt8) (hb : BSl M (.slice A bs.length c) bs) (i : Nat) (hi : i ≤ bs.length) (bad : Bool) :
    Bf.Fn Tryz.prog 102 [.pointer (some ⟨p, 0, none⟩)] M [rdr p A bs.length c i bad]
      (fun r M' A' => M = M' ∧ ((∃ x, bs[i]? = some x ∧ r = .int .u8 (x.toNat : Int) ∧ A' = [rdr p A bs.length c (i + 1) bad]) ∨ (bs.drop i = [] ∧ r = .int .u8 0 ∧ A' = [rdr p A bs.length c i true]))) := by
  have hll := hb.len_le
  unfold rdr
  refine Fn.intro Tryz.func102 rfl rfl Tryz.ntmps102 rfl fun E F => ?_
  (repeat (first | ((with_reducible refine Tr.step rfl ?_); (with_reducible refine Knd.assign ?_); (refine xaQ (z := ?_))) | (with_reducible first | apply Tr.next | apply Tr.seq | apply Tr.region | apply Tr.nil)))
  (((apply Tr.draw); (kernel_rfl)); (refine tkQ 0 (hB := by exact fun _ h => h) (s := by exact Stab.move rfl) (h := ?_)); (refine tkQ 4 (s := by exact Stab.move rfl) (h := ?_)); (refine tkQ 1 (s := by exact Stab.nilCheck rfl) (h := ?_)); (refine tkQ 5 (s := by exact Stab.nilCheck rfl) (h := ?_)); (refine tkQ 2 (s := by exact sfQ) (h := ?_)); (refine tkQ 6 (s := by exact sfQ) (h := ?_)); (refine tkQ 3 (s := by exact slQ) (h := ?_)); (refine tkQ 7 (s := by exact slQ) (h := ?_)); (refine tkQ 8 (s := by exact snQ) (h := ?_)); (refine tkQ 9 (s := by exact siQ) (h := ?_)); (refine TrA.done (by kernel_rfl) ?_))
  by_cases hlt : i < bs.length
  · obtain ⟨x, hx⟩ := get_of_lt hlt
    obtain ⟨hA, hat⟩ := hb.byte hx
    (repeat (first | ((with_reducible refine Tr.step rfl ?_); (first | (refine xmQ (z := ?_)) | (refine xlQ (z := ?_)) | (refine xfQ (z := ?_)) | ((with_reducible refine Knd.nilCheck ?_); (refine Exec.stab rfl (Stab.nilCheck rfl) rfl ?_)) | (refine xdQ (z := ?_)) | (refine xSQ (z := ?_)))) | (with_reducible first | apply Tr.next | apply Tr.seq | apply Tr.region | apply Tr.nil | apply Tr.skip) | (refine Tr.cond_f rfl (by omega) ?_)))
    rw [show (i : Int) + 1 = ((i + 1 : Nat) : Int) by omega]
    (((apply Tr.draw); (kernel_rfl)); (refine tkQ 0 (hB := by exact fun _ h => h) (s := by exact Stab.move rfl) (h := ?_)); (refine tkQ 4 (s := by exact Stab.move rfl) (h := ?_)); (refine tkQ 1 (s := by exact Stab.nilCheck rfl) (h := ?_)); (refine tkQ 5 (s := by exact Stab.nilCheck rfl) (h := ?_)); (refine tkQ 2 (s := by exact sfQ) (h := ?_)); (refine tkQ 6 (s := by exact sfQ) (h := ?_)); (refine tkQ 3 (s := by exact slQ) (h := ?_)); (refine tkQ 7 (s := by exact slQ) (h := ?_)); (refine tkQ 8 (s := by exact Stab.subi rfl rfl (by omega)) (h := ?_)))
    rw [show ((i + 1 : Nat) : Int) - 1 = (i : Int) by omega]
    ((refine tkQ 9 (s := by exact sxQ) (h := ?_)); (refine tkQ 10 (s := by exact sMQ) (h := ?_)); (refine tkQ 11 (s := by exact Stab.assign rfl) (h := ?_)); (refine TrA.done (by kernel_rfl) ?_))
    (repeat (first | (with_reducible first | apply Tr.next | apply Tr.ret)))
    refine Tr.doneA (A' := [box p 113 _]) (by first | exact .inl rfl | exact .inr rfl) rfl (by repeat (first | exact RVs.nil | (apply RVs.cons; (exact RV.tmp rfl)))) (Mem.le.refl _) ⟨fun _ h => h, fun h => h⟩ ⟨rfl, .inl ⟨x, hx, rfl, rfl⟩⟩
  · (repeat (first | ((with_reducible refine Tr.step rfl ?_); (first | (refine xmQ (z := ?_)) | (refine xaQ (z := ?_)) | (refine xfQ (z := ?_)) | ((with_reducible refine Knd.nilCheck ?_); (refine Exec.stab rfl (Stab.nilCheck rfl) rfl ?_)) | (refine xSQ (z := ?_)))) | (with_reducible first | apply Tr.next | apply Tr.seq | apply Tr.region | apply Tr.nil | apply Tr.ret | apply Tr.then_ret) | (refine Tr.cond_t rfl (by first | (with_reducible assumption) | omega) ?_)))
    refine Tr.doneA (A' := [box p 113 _]) (by first | exact .inl rfl | exact .inr rfl) rfl (by repeat (first | exact RVs.nil | (apply RVs.cons; (exact RV.tmp rfl)))) (Mem.le.refl _) ⟨fun _ h => h, fun h => h⟩ ⟨rfl, .inr ⟨List.drop_eq_nil_of_le (by omega), rfl, rfl⟩⟩
set_option maxHeartbeats 2000000 in
theorem rnumber_fn (M : Mem) (p : Nat) (A : Option Addr) (c : Nat) (bs : List UInt8) (hb : BSl M (.slice A bs.length c) bs) (i0 : Nat) (hi0 : i0 ≤ bs.length) :
    Bf.Fn Tryz.prog 103 [.pointer (some ⟨p, 0, none⟩)] M [rdr p A bs.length c i0 false]
      (fun r M' A' => M = M' ∧ ∃ (u at_ : Nat) (bad : Bool), u < 2 ^ 64 ∧ at_ ≤ bs.length ∧ i0 ≤ at_ ∧ r = .int .u64 (u : Int) ∧ A' = [rdr p A bs.length c at_ bad] ∧
        ((bad = false ∧ rdN 0 (bs.drop i0) = some (u, bs.drop at_)) ∨ (bad = true ∧ rdN 0 (bs.drop i0) = none))) := by
  have hll := hb.len_le
  refine Fn.intro Tryz.func103 rfl rfl Tryz.ntmps103 rfl fun E F => ?_
  (repeat (first | ((with_reducible refine Tr.step rfl ?_); (with_reducible refine Knd.assign ?_); (refine xaQ (z := ?_))) | (with_reducible first | apply Tr.next | apply Tr.seq | apply Tr.region | apply Tr.nil | apply Tr.block)))
  refine Tr.loop (α := Nat × Nat × Nat) (fun y => ⟨43, [(4, .int .i64 y.1), (3, .int .u64 y.2.1), (2, .int .u64 0), (0, .pointer (some ⟨p, 0, none⟩))], [], M, rdr p A bs.length c y.2.2 false :: ([] ++ F)⟩)
    (fun y => y.1 ≤ 9 ∧ y.2.1 < 2 ^ (7 * y.1) ∧ y.2.2 ≤ bs.length ∧ i0 ≤ y.2.2 ∧ rdN 0 (bs.drop i0) = (rdN y.1 (bs.drop y.2.2)).map fun z => (y.2.1 + z.1, z.2)) (fun y => 9 - y.1) (0, 0, i0) ⟨by simp, by simp, hi0, Nat.le_refl _, by cases h : rdN 0 (bs.drop i0) <;> simp [h]⟩ hsQ (fun y hy => ?_)
  obtain ⟨i, u, at_⟩ := y
  obtain ⟨h1, h2, h3, h30, h4⟩ := hy
  simp only at h1 h2 h3 h30 h4
  dsimp only
  have hu63 : u < 2 ^ 63 := Nat.lt_of_lt_of_le h2 (Nat.pow_le_pow_right (by decide) (by omega))
  unfold rdr
  (repeat (first | ((with_reducible refine Tr.step rfl ?_); (first | (refine xmQ (z := ?_)) | (refine xlQ (z := ?_)) | (refine xfQ (z := ?_)) | ((with_reducible refine Knd.nilCheck ?_); (refine Exec.stab rfl (Stab.nilCheck rfl) rfl ?_)) | ((with_reducible refine Knd.unOp ?_); (refine Exec.stab rfl (Stab.not rfl) rfl ?_)))) | (with_reducible first | apply Tr.next | apply Tr.seq | apply Tr.region | apply Tr.nil | apply Tr.skip | apply Tr.block) | (refine Tr.cond_bt rfl (by first | (with_reducible rfl) | (with_reducible exact Bool.not_false)) ?_)))
  ((refine Tr.step rfl ?_))
  refine Exec.call (A := [rdr p A bs.length c at_ false]) rfl (next_fn M p A c bs hb at_ h3 false) (List.Perm.refl _) rfl ?_
  rintro _ _ _ - ⟨rfl, ⟨x, hx, rfl, rfl⟩ | ⟨hnil, rfl, rfl⟩⟩
  rotate_left
  · unfold rdr
    rw [hnil] at h4
    have hbad : rdN 0 (bs.drop i0) = none := by rw [h4]; rfl
    rcases (by omega : i = 0 ∨ (0 < i ∧ i < 9) ∨ i = 9) with k | k | k
    · have hsh0 : IntKind.u64.wrap ((0 : Int) % 128 * 2 ^ min (7 * (i : Int)).toNat IntKind.u64.bits) = 0 := by rw [show (0 : Int) % 128 = 0 from rfl, Int.zero_mul]; exact IntWalk.u64_in _ ⟨by omega, by omega⟩
      have hu0 : u = 0 := by subst k; simpa using h2
      (repeat (first | ((with_reducible refine Tr.step rfl ?_); (first | (refine xmQ (z := ?_)) | (refine xaQ (z := ?_)) | ((with_reducible refine Knd.binOp ?_); (first | (refine Exec.stab rfl (Stab.muli rfl rfl (by omega)) rfl ?_) | (refine xiQ (z := ?_)) | (refine Exec.stab rfl (Stab.remp rfl rfl (by omega) (by omega)) rfl ?_))) | ((with_reducible refine Knd.pick ?_); (first | (refine Exec.stab rfl (Stab.pick_f rfl (by (with_reducible rfl)) rfl) rfl ?_) | (refine Exec.stab rfl (Stab.pick_fd rfl (by omega) rfl) rfl ?_))) | ((with_reducible refine Knd.convert ?_); (refine Exec.stab rfl (Stab.convu64 rfl (tysOk.get rfl) (tysOk.get rfl) rfl rfl (by omega)) rfl ?_)))) | (with_reducible first | apply Tr.next | apply Tr.seq | apply Tr.region | apply Tr.nil) | ((refine Tr.guard_l rfl rfl rfl (by (with_reducible rfl)) ?_); (first | (refine xmQ (z := ?_)) | (refine xiQ (z := ?_)) | ((with_reducible refine Knd.pick ?_); (refine Exec.stab rfl (Stab.pick_fd rfl (by omega) rfl) rfl ?_)))) | (refine Tr.guard_n rfl rfl rfl (by omega) rfl rfl ?_) | (with_reducible refine Tr.skip ?_) | (refine Tr.cond_bf rfl (by (with_reducible rfl)) ?_)))
      refine Tr.step rfl ?_
      refine Exec.stab rfl (Stab.shl rfl rfl (by omega)) rfl ?_
      rw [hsh0]
      (repeat (first | ((with_reducible refine Tr.step rfl ?_); (first | (refine xmQ (z := ?_)) | (refine xaQ (z := ?_)) | ((with_reducible refine Knd.binOp ?_); (first | (refine Exec.stab rfl (Stab.addu64 rfl rfl (by omega)) rfl ?_) | (refine xiQ (z := ?_)))))) | (with_reducible first | apply Tr.next | apply Tr.seq | apply Tr.region | apply Tr.nil | apply Tr.ret | apply Tr.then_ret | apply Tr.in_ret) | (refine Tr.cond_t rfl (by first | (with_reducible assumption) | omega) ?_)))
      refine Tr.doneA (A' := [box p 113 _]) (by first | exact .inl rfl | exact .inr rfl) rfl (by repeat (first | exact RVs.nil | (apply RVs.cons; (exact RV.tmp rfl)))) (Mem.le.refl _) ⟨fun _ h => h, fun h => h⟩ ⟨rfl, 0, at_, true, by omega, h3, h30, by rw [hu0]; rfl, rfl, .inr ⟨rfl, hbad⟩⟩
    · obtain ⟨ka, kb⟩ := k
      (repeat (first | ((with_reducible refine Tr.step rfl ?_); (first | (refine xmQ (z := ?_)) | (refine xaQ (z := ?_)) | (refine xfQ (z := ?_)) | ((with_reducible refine Knd.nilCheck ?_); (refine Exec.stab rfl (Stab.nilCheck rfl) rfl ?_)) | (refine xiQ (z := ?_)) | ((with_reducible refine Knd.pick ?_); (first | (refine Exec.stab rfl (Stab.pick_f rfl (by (with_reducible rfl)) rfl) rfl ?_) | (refine Exec.stab rfl (Stab.pick_fd rfl (by omega) rfl) rfl ?_))) | (refine xSQ (z := ?_)))) | (with_reducible first | apply Tr.next | apply Tr.seq | apply Tr.region | apply Tr.nil) | ((refine Tr.guard_l rfl rfl rfl (by (with_reducible rfl)) ?_); (first | (refine xmQ (z := ?_)) | (refine xiQ (z := ?_)) | ((with_reducible refine Knd.pick ?_); (refine Exec.stab rfl (Stab.pick_td rfl (by omega) rfl) rfl ?_)))) | ((refine Tr.guard_y rfl rfl rfl (by first | (with_reducible assumption) | omega) ?_); (first | (refine xmQ (z := ?_)) | (refine xiQ (z := ?_)))) | (refine Tr.guard_n rfl rfl rfl (by omega) rfl rfl ?_) | (with_reducible first | apply Tr.ret | apply Tr.then_ret | apply Tr.in_ret) | (refine Tr.cond_t rfl (by first | (with_reducible assumption) | (with_reducible rfl)) ?_)))
      refine Tr.doneA (A' := [box p 113 _]) (by first | exact .inl rfl | exact .inr rfl) rfl (by repeat (first | exact RVs.nil | (apply RVs.cons; (exact RV.tmp rfl)))) (Mem.le.refl _) ⟨fun _ h => h, fun h => h⟩ ⟨rfl, 0, at_, true, by omega, h3, h30, rfl, rfl, .inr ⟨rfl, hbad⟩⟩
    · (repeat (first | ((with_reducible refine Tr.step rfl ?_); (first | (refine xmQ (z := ?_)) | (refine xaQ (z := ?_)) | (refine xfQ (z := ?_)) | ((with_reducible refine Knd.nilCheck ?_); (refine Exec.stab rfl (Stab.nilCheck rfl) rfl ?_)) | (refine xiQ (z := ?_)) | ((with_reducible refine Knd.pick ?_); (first | (refine Exec.stab rfl (Stab.pick_td rfl (by omega) rfl) rfl ?_) | (refine Exec.stab rfl (Stab.pick_fd rfl (by omega) rfl) rfl ?_))) | (refine xSQ (z := ?_)))) | (with_reducible first | apply Tr.next | apply Tr.seq | apply Tr.region | apply Tr.nil) | ((refine Tr.guard_y rfl rfl rfl (by first | (with_reducible assumption) | omega) ?_); (first | (refine xmQ (z := ?_)) | (refine xiQ (z := ?_)))) | ((refine Tr.guard_y' rfl rfl rfl (by omega) ?_); (first | (refine xmQ (z := ?_)) | (refine xiQ (z := ?_)) | ((with_reducible refine Knd.pick ?_); (refine Exec.stab rfl (Stab.pick_td rfl (by omega) rfl) rfl ?_)))) | (with_reducible first | apply Tr.ret | apply Tr.then_ret | apply Tr.in_ret) | (refine Tr.cond_t rfl (by first | (with_reducible assumption) | (with_reducible rfl)) ?_)))
      refine Tr.doneA (A' := [box p 113 _]) (by first | exact .inl rfl | exact .inr rfl) rfl (by repeat (first | exact RVs.nil | (apply RVs.cons; (exact RV.tmp rfl)))) (Mem.le.refl _) ⟨fun _ h => h, fun h => h⟩ ⟨rfl, 0, at_, true, by omega, h3, h30, rfl, rfl, .inr ⟨rfl, hbad⟩⟩
  have hat1 : at_ + 1 ≤ bs.length := (List.getElem?_eq_some_iff.1 hx).1
  rw [drop_cons hx] at h4
  have hc8 := x.toNat_lt
  unfold rdr
  (repeat (first | ((with_reducible refine Tr.step rfl ?_); (first | (refine xmQ (z := ?_)) | (refine xaQ (z := ?_)) | (refine xiQ (z := ?_)))) | (with_reducible first | apply Tr.next | apply Tr.seq | apply Tr.region | apply Tr.nil)))
  by_cases hbad : (i = 9 ∧ 1 < x.toNat) ∨ (0 < i ∧ x.toNat = 0)
  · have hno : rdN 0 (bs.drop i0) = none := by
      rw [h4]
      unfold rdN
      rcases hbad with h | ⟨h, h'⟩
      · rw [if_pos h]; rfl
      · rw [if_neg (by omega), if_pos (by omega), if_pos ⟨h', h⟩]; rfl
    rcases (by omega : (i = 9 ∧ 1 < x.toNat) ∨ (i = 9 ∧ x.toNat = 0) ∨ (i < 9 ∧ 0 < i ∧ x.toNat = 0)) with ⟨ka, kb⟩ | ⟨ka, kb⟩ | ⟨ka, kb, kc⟩
    · (repeat (first | ((with_reducible refine Tr.step rfl ?_); (first | (refine xmQ (z := ?_)) | (refine xaQ (z := ?_)) | (refine xfQ (z := ?_)) | ((with_reducible refine Knd.nilCheck ?_); (refine Exec.stab rfl (Stab.nilCheck rfl) rfl ?_)) | ((with_reducible refine Knd.pick ?_); (refine Exec.stab rfl (Stab.pick_td rfl (by omega) rfl) rfl ?_)) | (refine xSQ (z := ?_)))) | (with_reducible first | apply Tr.next | apply Tr.seq | apply Tr.region | apply Tr.nil) | ((refine Tr.guard_y rfl rfl rfl (by first | (with_reducible assumption) | omega) ?_); (first | (refine xmQ (z := ?_)) | (refine xiQ (z := ?_)))) | (refine Tr.guard_n' rfl rfl rfl (by first | (with_reducible assumption) | omega) rfl rfl ?_) | (refine Tr.guard_u rfl rfl rfl rfl rfl ?_) | (with_reducible first | apply Tr.ret | apply Tr.then_ret | apply Tr.in_ret) | (refine Tr.cond_bt rfl (by (with_reducible rfl)) ?_)))
      refine Tr.doneA (A' := [box p 113 _]) (by first | exact .inl rfl | exact .inr rfl) rfl (by repeat (first | exact RVs.nil | (apply RVs.cons; (exact RV.tmp rfl)))) (Mem.le.refl _) ⟨fun _ h => h, fun h => h⟩ ⟨rfl, 0, at_ + 1, true, by omega, hat1, by omega, rfl, rfl, .inr ⟨rfl, hno⟩⟩
    · (repeat (first | ((with_reducible refine Tr.step rfl ?_); (first | (refine xmQ (z := ?_)) | (refine xaQ (z := ?_)) | (refine xfQ (z := ?_)) | ((with_reducible refine Knd.nilCheck ?_); (refine Exec.stab rfl (Stab.nilCheck rfl) rfl ?_)) | ((with_reducible refine Knd.pick ?_); (first | (refine Exec.stab rfl (Stab.pick_td rfl (by omega) rfl) rfl ?_) | (refine Exec.stab rfl (Stab.pick_fd rfl (by omega) rfl) rfl ?_))) | (refine xSQ (z := ?_)))) | (with_reducible first | apply Tr.next | apply Tr.seq | apply Tr.region | apply Tr.nil) | ((refine Tr.guard_y rfl rfl rfl (by first | (with_reducible assumption) | omega) ?_); (first | (refine xmQ (z := ?_)) | (refine xiQ (z := ?_)))) | ((refine Tr.guard_y' rfl rfl rfl (by omega) ?_); (first | (refine xmQ (z := ?_)) | (refine xiQ (z := ?_)) | ((with_reducible refine Knd.pick ?_); (refine Exec.stab rfl (Stab.pick_td rfl (by omega) rfl) rfl ?_)))) | (with_reducible first | apply Tr.ret | apply Tr.then_ret | apply Tr.in_ret) | (refine Tr.cond_t rfl (by first | (with_reducible assumption) | omega) ?_)))
      refine Tr.doneA (A' := [box p 113 _]) (by first | exact .inl rfl | exact .inr rfl) rfl (by repeat (first | exact RVs.nil | (apply RVs.cons; (exact RV.tmp rfl)))) (Mem.le.refl _) ⟨fun _ h => h, fun h => h⟩ ⟨rfl, 0, at_ + 1, true, by omega, hat1, by omega, rfl, rfl, .inr ⟨rfl, hno⟩⟩
    · (repeat (first | ((with_reducible refine Tr.step rfl ?_); (first | (refine xmQ (z := ?_)) | (refine xaQ (z := ?_)) | (refine xfQ (z := ?_)) | ((with_reducible refine Knd.nilCheck ?_); (refine Exec.stab rfl (Stab.nilCheck rfl) rfl ?_)) | ((with_reducible refine Knd.pick ?_); (first | (refine Exec.stab rfl (Stab.pick_f rfl (by (with_reducible rfl)) rfl) rfl ?_) | (refine Exec.stab rfl (Stab.pick_fd rfl (by omega) rfl) rfl ?_))) | (refine xSQ (z := ?_)))) | (with_reducible first | apply Tr.next | apply Tr.seq | apply Tr.region | apply Tr.nil) | ((refine Tr.guard_l rfl rfl rfl (by (with_reducible rfl)) ?_); (first | (refine xmQ (z := ?_)) | (refine xiQ (z := ?_)) | ((with_reducible refine Knd.pick ?_); (refine Exec.stab rfl (Stab.pick_td rfl (by omega) rfl) rfl ?_)))) | ((refine Tr.guard_y rfl rfl rfl (by first | (with_reducible assumption) | omega) ?_); (first | (refine xmQ (z := ?_)) | (refine xiQ (z := ?_)))) | (refine Tr.guard_n rfl rfl rfl (by omega) rfl rfl ?_) | (with_reducible first | apply Tr.ret | apply Tr.then_ret | apply Tr.in_ret) | (refine Tr.cond_t rfl (by first | (with_reducible assumption) | omega) ?_)))
      refine Tr.doneA (A' := [box p 113 _]) (by first | exact .inl rfl | exact .inr rfl) rfl (by repeat (first | exact RVs.nil | (apply RVs.cons; (exact RV.tmp rfl)))) (Mem.le.refl _) ⟨fun _ h => h, fun h => h⟩ ⟨rfl, 0, at_ + 1, true, by omega, hat1, by omega, rfl, rfl, .inr ⟨rfl, hno⟩⟩
  refine Tr.cutL (α := Bool) (fun q => ⟨43, [(28, .bool q), (5, .int .u8 (x.toNat : Int)), (4, .int .i64 i), (3, .int .u64 u), (2, .int .u64 0), (0, .pointer (some ⟨p, 0, none⟩))], [], M, [box p 113 [.slice A bs.length c, .int .i64 ((at_ + 1 : Nat) : Int), .bool false]] ++ ([] ++ F)⟩) (fun q => q = false) ?_ (fun q hq => ?_)
  · by_cases h9a : i = 9
    · (repeat (first | ((with_reducible refine Tr.step rfl ?_); (first | (refine xmQ (z := ?_)) | ((with_reducible refine Knd.pick ?_); (first | (refine Exec.stab rfl (Stab.pick_td rfl (by omega) rfl) rfl ?_) | (refine Exec.stab rfl (Stab.pick_fd rfl (by omega) rfl) rfl ?_))))) | (with_reducible refine Tr.nil ?_) | ((refine Tr.guard_y rfl rfl rfl (by first | (with_reducible assumption) | omega) ?_); (first | (refine xmQ (z := ?_)) | (refine xiQ (z := ?_)))) | ((refine Tr.guard_y' rfl rfl rfl (by first | (with_reducible assumption) | omega) ?_); (first | (refine xmQ (z := ?_)) | (refine xiQ (z := ?_)) | ((with_reducible refine Knd.pick ?_); (refine Exec.stab rfl (Stab.pick_td rfl (by omega) rfl) rfl ?_))))))
      refine Tr.land _ ?_ hsQ
      simp; omega
    · by_cases hi0 : 0 < i
      · (repeat (first | ((with_reducible refine Tr.step rfl ?_); (first | (refine xmQ (z := ?_)) | ((with_reducible refine Knd.pick ?_); (first | (refine Exec.stab rfl (Stab.pick_f rfl (by (with_reducible rfl)) rfl) rfl ?_) | (refine Exec.stab rfl (Stab.pick_fd rfl (by omega) rfl) rfl ?_))))) | (with_reducible refine Tr.nil ?_) | ((refine Tr.guard_l rfl rfl rfl (by (with_reducible rfl)) ?_); (first | (refine xmQ (z := ?_)) | (refine xiQ (z := ?_)) | ((with_reducible refine Knd.pick ?_); (refine Exec.stab rfl (Stab.pick_td rfl (by omega) rfl) rfl ?_)))) | ((refine Tr.guard_y rfl rfl rfl (by first | (with_reducible assumption) | omega) ?_); (first | (refine xmQ (z := ?_)) | (refine xiQ (z := ?_)))) | (refine Tr.guard_n rfl rfl rfl (by first | (with_reducible assumption) | omega) rfl rfl ?_)))
        refine Tr.land _ ?_ hsQ
        simp; omega
      · (repeat (first | ((with_reducible refine Tr.step rfl ?_); (first | (refine xmQ (z := ?_)) | ((with_reducible refine Knd.pick ?_); (first | (refine Exec.stab rfl (Stab.pick_f rfl (by (with_reducible rfl)) rfl) rfl ?_) | (refine Exec.stab rfl (Stab.pick_fd rfl (by omega) rfl) rfl ?_))))) | (with_reducible refine Tr.nil ?_) | ((refine Tr.guard_l rfl rfl rfl (by (with_reducible rfl)) ?_); (first | (refine xmQ (z := ?_)) | (refine xiQ (z := ?_)) | ((with_reducible refine Knd.pick ?_); (refine Exec.stab rfl (Stab.pick_fd rfl (by omega) rfl) rfl ?_)))) | (refine Tr.guard_n rfl rfl rfl (by first | (with_reducible assumption) | omega) rfl rfl ?_)))
        refine Tr.land _ ?_ hsQ
        rfl
  subst hq
  have hw : x.toNat % 128 * 2 ^ (7 * i) < 2 ^ 64 := by
    by_cases h9a : i = 9
    · subst h9a
      have h1 : x.toNat ≤ 1 := by omega
      have : x.toNat % 128 ≤ 1 := by omega
      have : x.toNat % 128 * 2 ^ (7 * 9) ≤ 1 * 2 ^ (7 * 9) := Nat.mul_le_mul_right _ this
      omega
    · have h1 : x.toNat % 128 * 2 ^ (7 * i) < 2 ^ 7 * 2 ^ (7 * i) := Nat.mul_lt_mul_of_pos_right (by omega) (Nat.two_pow_pos _)
      rw [← Nat.pow_add] at h1
      have : 2 ^ (7 + 7 * i) ≤ 2 ^ 63 := Nat.pow_le_pow_right (by decide) (by omega)
      omega
  have hsh : IntKind.u64.wrap ((x.toNat : Int) % 128 * 2 ^ min (7 * (i : Int)).toNat IntKind.u64.bits) = ((x.toNat % 128 * 2 ^ (7 * i) : Nat) : Int) := by
    have e1 : (7 * (i : Int)).toNat = 7 * i := by omega
    have e2 : min (7 * i) IntKind.u64.bits = 7 * i := by
      have : IntKind.u64.bits = 64 := rfl
      omega
    rw [e1, e2]
    have e3 : (x.toNat : Int) % 128 * 2 ^ (7 * i) = ((x.toNat % 128 * 2 ^ (7 * i) : Nat) : Int) := by
      rw [Int.natCast_mul, Int.natCast_pow, Int.natCast_emod]; rfl
    rw [e3]
    exact IntWalk.u64_in _ ⟨by omega, by omega⟩
  have hsum : u + x.toNat % 128 * 2 ^ (7 * i) < 2 ^ 64 := by
    obtain ⟨m, hm⟩ : 2 ^ (7 * i) ∣ 2 ^ 64 := Nat.pow_dvd_pow _ (by omega)
    rw [hm] at hw ⊢
    rw [Nat.mul_comm] at hw
    have h5 := Nat.lt_of_mul_lt_mul_left hw
    have : u + x.toNat % 128 * 2 ^ (7 * i) < 2 ^ (7 * i) * (x.toNat % 128 + 1) := by rw [Nat.mul_add, Nat.mul_one, Nat.mul_comm (x.toNat % 128)]; omega
    exact Nat.lt_of_lt_of_le this (Nat.mul_le_mul_left _ (by omega))
  (repeat (first | ((with_reducible refine Tr.step rfl ?_); (first | (refine xmQ (z := ?_)) | ((with_reducible refine Knd.binOp ?_); (first | (refine Exec.stab rfl (Stab.muli rfl rfl (by omega)) rfl ?_) | (refine Exec.stab rfl (Stab.remp rfl rfl (by omega) (by omega)) rfl ?_))) | ((with_reducible refine Knd.convert ?_); (refine Exec.stab rfl (Stab.convu64 rfl (tysOk.get rfl) (tysOk.get rfl) rfl rfl (by omega)) rfl ?_)))) | (with_reducible first | apply Tr.next | apply Tr.seq | apply Tr.region | apply Tr.skip) | (refine Tr.cond_bf rfl (by (with_reducible rfl)) ?_)))
  refine Tr.step rfl ?_
  refine Exec.stab rfl (Stab.shl rfl rfl (by omega)) rfl ?_
  rw [hsh]
  generalize hW : x.toNat % 128 * 2 ^ (7 * i) = W at *
  by_cases h128 : x.toNat < 128
  · (repeat (first | ((with_reducible refine Tr.step rfl ?_); (first | (refine xmQ (z := ?_)) | (refine xaQ (z := ?_)) | ((with_reducible refine Knd.binOp ?_); (first | (refine Exec.stab rfl (Stab.addu64 rfl rfl (by omega)) rfl ?_) | (refine xiQ (z := ?_)))))) | (with_reducible first | apply Tr.next | apply Tr.seq | apply Tr.region | apply Tr.nil | apply Tr.ret | apply Tr.then_ret | apply Tr.in_ret) | (refine Tr.cond_t rfl (by first | (with_reducible assumption) | omega) ?_)))
    rw [show (u : Int) + (W : Int) = ((u + W : Nat) : Int) by omega]
    refine Tr.doneA (A' := [box p 113 _]) (by first | exact .inl rfl | exact .inr rfl) rfl (by repeat (first | exact RVs.nil | (apply RVs.cons; (exact RV.tmp rfl)))) (Mem.le.refl _) ⟨fun _ h => h, fun h => h⟩ ⟨rfl, u + W, at_ + 1, false, hsum, hat1, by omega, rfl, rfl, .inl ⟨rfl, ?_⟩⟩
    rw [h4]
    unfold rdN
    rw [if_neg (by omega), if_pos h128, if_neg (by omega), ← hW, Nat.mod_eq_of_lt h128]
    rfl
  · have hne : i ≠ 9 := fun e => hbad (.inl ⟨e, by omega⟩)
    (repeat (first | ((with_reducible refine Tr.step rfl ?_); (first | (refine xmQ (z := ?_)) | (refine xaQ (z := ?_)) | ((with_reducible refine Knd.binOp ?_); (first | (refine Exec.stab rfl (Stab.addu64 rfl rfl (by omega)) rfl ?_) | (refine xdQ (z := ?_)) | (refine xiQ (z := ?_)))))) | (with_reducible first | apply Tr.next | apply Tr.seq | apply Tr.region | apply Tr.nil | apply Tr.skip | apply Tr.in_normal) | (refine Tr.cond_f rfl (by first | (with_reducible assumption) | omega) ?_)))
    rw [show (u : Int) + (W : Int) = ((u + W : Nat) : Int) by omega]
    refine Tr.again (i + 1, u + W, at_ + 1) ⟨by simp only; omega, ?_, hat1, by simp only; omega, ?_⟩ (by simp only; omega) hsQ
    · simp only
      have hd : x.toNat % 128 < 128 := Nat.mod_lt _ (by omega)
      have : u + x.toNat % 128 * 2 ^ (7 * i) < 2 ^ (7 * i) * (x.toNat % 128 + 1) := by rw [Nat.mul_add, Nat.mul_one, Nat.mul_comm (x.toNat % 128)]; omega
      rw [← hW]
      refine Nat.lt_of_lt_of_le this ?_
      rw [show 7 * (i + 1) = 7 * i + 7 by omega, Nat.pow_add]
      exact Nat.mul_le_mul_left _ (by omega)
    · simp only
      rw [h4]
      conv => lhs; unfold rdN
      rw [if_neg (by omega), if_neg h128, hW]
      cases rdN (i + 1) (bs.drop (at_ + 1)) <;> simp [Nat.add_assoc]
end Go.Proofs.YtghjhdbmkilakaaGreatDoor

/-
  The codec: the contract of the reference's Value.
  Conditions: none.
-/
namespace Go.Proofs.YtghjhdbmkilakaaGreatDoor
open Go Bf
attribute [local irreducible] Tr Exec Stab HasTy Go.Addr.add IntKind.wrap
theorem rdL_count {f : List UInt8 → Option (Val × List UInt8)} (hf : ∀ bs v r, f bs = some (v, r) → r.length < bs.length) : ∀ (n : Nat) (bs r : List UInt8) (l : List Val), rdL f n bs = some (l, r) → r.length + n ≤ bs.length
  | 0, bs, r, l, h => by
    simp only [rdL, Option.some.injEq, Prod.mk.injEq] at h
    obtain ⟨-, rfl⟩ := h
    exact Nat.le_refl _
  | n + 1, bs, r, l, h => by
    unfold rdL at h
    cases h1 : f bs with
    | none => rw [h1] at h; cases h
    | some x =>
      rw [h1] at h
      obtain ⟨v, r1⟩ := x
      dsimp only at h
      cases h2 : rdL f n r1 with
      | none => rw [h2] at h; cases h
      | some y =>
        rw [h2] at h
        obtain ⟨l1, r2⟩ := y
        simp only [Option.some.injEq, Prod.mk.injEq] at h
        obtain ⟨-, rfl⟩ := h
        have := hf _ _ _ h1
        have := rdL_count hf n _ _ _ h2
        omega
/-- what Value does, for lists nested so deep at most -/
def RValueOk (room : Nat) : Prop := ∀ (M : Mem) (p : Nat) (A : Option Addr) (c : Nat) (bs : List UInt8) (i : Nat), BSl M (.slice A bs.length c) bs → bs.length ≤ 1000000000 → i ≤ bs.length →
    Bf.Fn Tryz.prog 65 [.pointer (some ⟨p, 0, none⟩), .int .i64 ((16 - room : Nat) : Int)] M [rdr p A bs.length c i false]
      (fun r M' A' => ∃ v at_ bad, RV M' r v ∧ at_ ≤ bs.length ∧ i ≤ at_ ∧ A' = [rdr p A bs.length c at_ bad] ∧ ((bad = false ∧ rdV room (bs.drop i) = some (v, bs.drop at_)) ∨ (bad = true ∧ rdV room (bs.drop i) = none)))
theorem rdV_nil (room : Nat) : rdV room [] = none := by cases room <;> rfl
set_option maxHeartbeats 4000000 in
theorem rvalue_fn : ∀ (room : Nat), room ≤ 16 → RValueOk room := by
  intro room
  induction room using Nat.strongRecOn with
  | _ room ih =>
  intro hroom M p A c bs i hb hlen hi
  have hll := hb.len_le
  refine Fn.intro Tryz.func65 rfl rfl Tryz.ntmps65 rfl fun E F => ?_
  unfold rdr
  (repeat (first | ((with_reducible refine Tr.step rfl ?_); (first | (refine xmQ (z := ?_)) | ((with_reducible refine Knd.alloc ?_); (refine Exec.alloc (tysOk.get rfl) rfl rfl (fun b => ?_))))) | (with_reducible first | apply Tr.next | apply Tr.seq | apply Tr.region | apply Tr.nil)))
  generalize hb4 : b = b4
  ((refine Tr.step rfl ?_))
  refine Exec.call (A := [rdr p A bs.length c i false]) rfl (next_fn M p A c bs hb i hi false) (List.Perm.swap _ _ _) rfl ?_
  rintro _ _ _ - ⟨rfl, ⟨x, hx, rfl, rfl⟩ | ⟨hnil, rfl, rfl⟩⟩
  rotate_left
  · unfold rdr
    (repeat (first | ((with_reducible refine Tr.step rfl ?_); (first | (refine xmQ (z := ?_)) | (refine xaQ (z := ?_)) | (refine xfQ (z := ?_)) | ((with_reducible refine Knd.nilCheck ?_); (refine Exec.stab rfl (Stab.nilCheck rfl) rfl ?_)) | (refine xiQ (z := ?_)) | ((with_reducible refine Knd.store ?_); (first | (refine xSQ (z := ?_)) | (refine xWQ (z := ?_)))) | ((with_reducible refine Knd.build ?_); (refine Exec.stab rfl (Stab.build tysOk rfl rfl rfl rfl (by repeat (exact BuildP.nil))) rfl ?_)))) | (with_reducible first | apply Tr.next | apply Tr.seq | apply Tr.region | apply Tr.nil | apply Tr.skip | apply Tr.block | apply Tr.ret | apply Tr.in_normal) | (refine Tr.cond_f rfl (by omega) ?_)))
    refine Tr.doneB (A' := [box p 113 _]) [box b4 53 _] (by first | exact .inl rfl | exact .inr rfl) rfl (by repeat (first | exact RVs.nil | (apply RVs.cons; (exact RV.cellW (by rfl) (tysOk.get (by rfl)) (by rfl) (by repeat (first | exact Has.here | apply Has.there)) (by first | rfl | assumption))))) (Mem.le.refl _) (List.Perm.swap _ _ _) ?_
    exact ⟨zVal, i, true, RV.zero _, hi, Nat.le_refl _, rfl, .inr ⟨rfl, by rw [hnil]; exact rdV_nil _⟩⟩
  have hi1 : i + 1 ≤ bs.length := (List.getElem?_eq_some_iff.1 hx).1
  rw [drop_cons hx]
  have hx8 := x.toNat_lt
  unfold rdr
  by_cases k1 : x.toNat = 1
  · have hnum : rdN 0 (bs.drop (i + 1)) = none → rdV room (x :: bs.drop (i + 1)) = none := fun h => by rw [rdV_eq, rdStep_cons, if_pos k1, h]; rfl
    (repeat (first | ((with_reducible refine Tr.step rfl ?_); (first | (refine xmQ (z := ?_)) | (refine xaQ (z := ?_)) | (refine xiQ (z := ?_)))) | (with_reducible first | apply Tr.next | apply Tr.seq | apply Tr.region | apply Tr.nil | apply Tr.block) | (refine Tr.cond_t rfl (by first | (with_reducible assumption) | omega) ?_)))
    ((refine Tr.step rfl ?_))
    refine Exec.call (A := [rdr p A bs.length c (i + 1) false]) rfl (rnumber_fn M p A c bs hb (i + 1) hi1) (List.Perm.refl _) rfl ?_
    rintro _ _ _ - ⟨rfl, u, at_, bad, hu, hat, hia, rfl, rfl, hcase⟩
    unfold rdr
    have hrng := unzz_range hu
    have hval : ∀ w : Int, w = unzz u → RVal M [.int .i64 1, .int .i64 w, .string ⟨#[]⟩, .slice none 0 0] (.mk 1 (unzz u) [] []) := fun w e => e ▸ RVal.close (A := none) (c := 0) (l := []) (s := []) (by omega) (e ▸ hrng) (by simp) (SlOf.nil _ _ _)
    have hfin : (bad = false ∧ rdV room (x :: bs.drop (i + 1)) = some (.mk 1 (unzz u) [] [], bs.drop at_)) ∨ (bad = true ∧ rdV room (x :: bs.drop (i + 1)) = none) := by
      rcases hcase with ⟨h, h'⟩ | ⟨h, h'⟩
      · exact .inl ⟨h, by rw [rdV_eq, rdStep_cons, if_pos k1, h']; rfl⟩
      · exact .inr ⟨h, hnum h'⟩
    by_cases h2 : u % 2 = 1
    · have h2' : (u : Int) % 2 = 1 := by omega
      (repeat (first | ((with_reducible refine Tr.step rfl ?_); (first | (refine xmQ (z := ?_)) | (refine xaQ (z := ?_)) | ((with_reducible refine Knd.binOp ?_); (first | (refine Exec.stab rfl (Stab.subi rfl rfl (by omega)) rfl ?_) | (refine xiQ (z := ?_)) | (refine Exec.stab rfl (Stab.remp rfl rfl (by omega) (by omega)) rfl ?_) | (refine Exec.stab rfl (Stab.quou64 rfl rfl (by omega) (by omega) (by omega)) rfl ?_))) | ((with_reducible refine Knd.unOp ?_); (refine Exec.stab rfl (Stab.neg rfl (by omega)) rfl ?_)) | (refine xWQ (z := ?_)) | ((with_reducible refine Knd.convert ?_); (refine Exec.stab rfl (Stab.convi rfl (tysOk.get rfl) (tysOk.get rfl) rfl rfl (by omega)) rfl ?_)) | ((with_reducible refine Knd.build ?_); (refine Exec.stab rfl (Stab.build tysOk rfl rfl rfl rfl (by repeat (first | exact BuildP.nil | ((apply BuildP.one); (rfl); (rfl); (first | rfl | assumption); (repeat (first | exact SetL.z | apply SetL.s)))))) rfl ?_)))) | (with_reducible first | apply Tr.next | apply Tr.seq | apply Tr.region | apply Tr.nil | apply Tr.ret | apply Tr.then_ret | apply Tr.in_ret) | (refine Tr.cond_t rfl (by (with_reducible assumption)) ?_)))
      refine Tr.doneB (A' := [box p 113 _]) [box b4 53 _] (by first | exact .inl rfl | exact .inr rfl) rfl (by repeat (first | exact RVs.nil | (apply RVs.cons; (exact RV.cellW (by rfl) (tysOk.get (by rfl)) (by rfl) (by repeat (first | exact Has.here | apply Has.there)) (by first | rfl | assumption))))) (Mem.le.refl _) (List.Perm.swap _ _ _) ?_
      exact ⟨_, at_, bad, ⟨_, rfl, hval _ (by unfold unzz; rw [if_neg (by omega)]; omega)⟩, hat, by omega, rfl, hfin⟩
    · have h2' : ¬ (u : Int) % 2 = 1 := by omega
      (repeat (first | ((with_reducible refine Tr.step rfl ?_); (first | (refine xmQ (z := ?_)) | (refine xaQ (z := ?_)) | ((with_reducible refine Knd.binOp ?_); (first | (refine xiQ (z := ?_)) | (refine Exec.stab rfl (Stab.remp rfl rfl (by omega) (by omega)) rfl ?_) | (refine Exec.stab rfl (Stab.quou64 rfl rfl (by omega) (by omega) (by omega)) rfl ?_))) | (refine xWQ (z := ?_)) | ((with_reducible refine Knd.convert ?_); (refine Exec.stab rfl (Stab.convi rfl (tysOk.get rfl) (tysOk.get rfl) rfl rfl (by omega)) rfl ?_)) | ((with_reducible refine Knd.build ?_); (refine Exec.stab rfl (Stab.build tysOk rfl rfl rfl rfl (by repeat (first | exact BuildP.nil | ((apply BuildP.one); (rfl); (rfl); (first | rfl | assumption); (repeat (first | exact SetL.z | apply SetL.s)))))) rfl ?_)))) | (with_reducible first | apply Tr.next | apply Tr.seq | apply Tr.region | apply Tr.nil | apply Tr.skip | apply Tr.ret | apply Tr.then_ret | apply Tr.in_ret) | (refine Tr.cond_f rfl (by (with_reducible assumption)) ?_)))
      refine Tr.doneB (A' := [box p 113 _]) [box b4 53 _] (by first | exact .inl rfl | exact .inr rfl) rfl (by repeat (first | exact RVs.nil | (apply RVs.cons; (exact RV.cellW (by rfl) (tysOk.get (by rfl)) (by rfl) (by repeat (first | exact Has.here | apply Has.there)) (by first | rfl | assumption))))) (Mem.le.refl _) (List.Perm.swap _ _ _) ?_
      exact ⟨_, at_, bad, ⟨_, rfl, hval _ (by unfold unzz; rw [if_pos (by omega)]; omega)⟩, hat, by omega, rfl, hfin⟩
  by_cases k2 : x.toNat = 2
  · (repeat (first | ((with_reducible refine Tr.step rfl ?_); (first | (refine xmQ (z := ?_)) | (refine xaQ (z := ?_)) | (refine xiQ (z := ?_)))) | (with_reducible first | apply Tr.next | apply Tr.seq | apply Tr.region | apply Tr.nil | apply Tr.block) | (refine Tr.cond_t rfl (by first | (with_reducible assumption) | omega) ?_) | (refine Tr.cond_f rfl (by first | (with_reducible assumption) | omega) ?_)))
    ((refine Tr.step rfl ?_))
    refine Exec.call (A := [rdr p A bs.length c (i + 1) false]) rfl (rnumber_fn M p A c bs hb (i + 1) hi1) (List.Perm.refl _) rfl ?_
    rintro _ _ _ - ⟨rfl, u, at_, bad, hu, hat, hia, rfl, rfl, hcase⟩
    unfold rdr
    rcases hcase with ⟨rfl, hn⟩ | ⟨rfl, hn⟩
    rotate_left
    · (repeat (first | ((with_reducible refine Tr.step rfl ?_); (with_reducible refine Knd.assign ?_); (refine xaQ (z := ?_))) | (with_reducible first | apply Tr.next | apply Tr.seq | apply Tr.nil)))
      (((apply Tr.draw); (kernel_rfl)); (refine tkQ 0 (hB := by exact fun _ h => h) (s := by exact Stab.move rfl) (h := ?_)); (refine tkQ 1 (s := by exact Stab.nilCheck rfl) (h := ?_)); (refine tkQ 2 (s := by exact sfQ) (h := ?_)); (refine tkQ 3 (s := by exact slQ) (h := ?_)); (refine tkQ 4 (s := by exact Stab.move rfl) (h := ?_)); ((refine tuQ 5 (h := ?_))); ((refine tuQ 6 (h := ?_))); ((refine tuQ 11 (h := ?_))); ((refine tuQ 7 (h := ?_))); ((refine tuQ 12 (h := ?_))); ((refine tuQ 8 (h := ?_))); ((refine tuQ 13 (h := ?_))); ((refine tuQ 9 (h := ?_))); ((refine tuQ 14 (h := ?_))); ((refine tuQ 10 (h := ?_))); ((refine tuQ 15 (h := ?_))); ((refine tuQ 16 (h := ?_))); ((refine tuQ 17 (h := ?_))); (refine tkQ 18 (s := by exact Stab.pick_t rfl (by (with_reducible rfl)) rfl) (h := ?_)); (refine TrA.done (by kernel_rfl) ?_))
      (repeat (first | ((with_reducible refine Tr.step rfl ?_); (first | (refine xmQ (z := ?_)) | (refine xfQ (z := ?_)) | ((with_reducible refine Knd.nilCheck ?_); (refine Exec.stab rfl (Stab.nilCheck rfl) rfl ?_)) | ((with_reducible refine Knd.store ?_); (first | (refine xSQ (z := ?_)) | (refine xWQ (z := ?_)))) | ((with_reducible refine Knd.build ?_); (refine Exec.stab rfl (Stab.build tysOk rfl rfl rfl rfl (by repeat (exact BuildP.nil))) rfl ?_)))) | (with_reducible first | apply Tr.next | apply Tr.seq | apply Tr.region | apply Tr.nil | apply Tr.ret | apply Tr.then_ret | apply Tr.in_ret) | (refine Tr.cond_bt rfl (by (with_reducible rfl)) ?_)))
      refine Tr.doneB (A' := [box p 113 _]) [box b4 53 _] (by first | exact .inl rfl | exact .inr rfl) rfl (by repeat (first | exact RVs.nil | (apply RVs.cons; (exact RV.cellW (by rfl) (tysOk.get (by rfl)) (by rfl) (by repeat (first | exact Has.here | apply Has.there)) (by first | rfl | assumption))))) (Mem.le.refl _) (List.Perm.swap _ _ _) ?_
      exact ⟨zVal, at_, true, RV.zero _, hat, by omega, rfl, .inr ⟨rfl, by rw [rdV_eq, rdStep_cons, if_neg k1, if_pos k2, hn]⟩⟩
    have hu' : u ≤ 18446744073709551615 := by omega
    by_cases hle : u ≤ bs.length - at_
    rotate_left
    · (repeat (first | ((with_reducible refine Tr.step rfl ?_); (with_reducible refine Knd.assign ?_); (refine xaQ (z := ?_))) | (with_reducible first | apply Tr.next | apply Tr.seq | apply Tr.nil)))
      (((apply Tr.draw); (kernel_rfl)); (refine tkQ 0 (hB := by exact fun _ h => h) (s := by exact Stab.move rfl) (h := ?_)); (refine tkQ 1 (s := by exact Stab.nilCheck rfl) (h := ?_)); (refine tkQ 2 (s := by exact sfQ) (h := ?_)); (refine tkQ 3 (s := by exact slQ) (h := ?_)); (refine tkQ 4 (s := by exact Stab.move rfl) (h := ?_)); ((refine tgQ 5 (s := by exact Stab.move rfl) (h := ?_))); ((refine tgQ 6 (s := by exact Stab.move rfl) (h := ?_))); ((refine tgQ 11 (s := by exact Stab.move rfl) (h := ?_))); ((refine tgQ 7 (s := by exact Stab.nilCheck rfl) (h := ?_))); ((refine tgQ 12 (s := by exact Stab.nilCheck rfl) (h := ?_))); ((refine tgQ 8 (s := by exact sfQ) (h := ?_))); ((refine tgQ 13 (s := by exact sfQ) (h := ?_))); ((refine tgQ 9 (s := by exact slQ) (h := ?_))); ((refine tgQ 14 (s := by exact slQ) (h := ?_))); ((refine tgQ 10 (s := by exact snQ) (h := ?_))); ((refine tgQ 15 (s := by exact Stab.subi rfl rfl (by omega)) (h := ?_))); ((refine tgQ 16 (s := by exact Stab.convu64 rfl (tysOk.get rfl) (tysOk.get rfl) rfl rfl (by omega)) (h := ?_))); ((refine tgQ 17 (s := by exact siQ) (h := ?_))); (refine tkQ 18 (s := by exact Stab.pick_f rfl (by (with_reducible rfl)) rfl) (h := ?_)); (refine TrA.done (by kernel_rfl) ?_))
      (repeat (first | ((with_reducible refine Tr.step rfl ?_); (first | (refine xmQ (z := ?_)) | (refine xfQ (z := ?_)) | ((with_reducible refine Knd.nilCheck ?_); (refine Exec.stab rfl (Stab.nilCheck rfl) rfl ?_)) | ((with_reducible refine Knd.store ?_); (first | (refine xSQ (z := ?_)) | (refine xWQ (z := ?_)))) | ((with_reducible refine Knd.build ?_); (refine Exec.stab rfl (Stab.build tysOk rfl rfl rfl rfl (by repeat (exact BuildP.nil))) rfl ?_)))) | (with_reducible first | apply Tr.next | apply Tr.seq | apply Tr.region | apply Tr.nil | apply Tr.ret | apply Tr.then_ret | apply Tr.in_ret) | (refine Tr.cond_t rfl (by first | (with_reducible assumption) | omega) ?_)))
      refine Tr.doneB (A' := [box p 113 _]) [box b4 53 _] (by first | exact .inl rfl | exact .inr rfl) rfl (by repeat (first | exact RVs.nil | (apply RVs.cons; (exact RV.cellW (by rfl) (tysOk.get (by rfl)) (by rfl) (by repeat (first | exact Has.here | apply Has.there)) (by first | rfl | assumption))))) (Mem.le.refl _) (List.Perm.swap _ _ _) ?_
      exact ⟨zVal, at_, true, RV.zero _, hat, by omega, rfl, .inr ⟨rfl, by rw [rdV_eq, rdStep_cons, if_neg k1, if_pos k2, hn]; dsimp only; rw [if_neg (by simp; omega)]⟩⟩
    have hsub := hb.sub (l := at_) (k := at_ + u) (m := c) (by omega) (by omega) (by have := hb.cap; omega) (Nat.le_refl _)
    have hsl : ((bs.drop at_).take (at_ + u - at_)).length ≤ 9223372036854775807 := by simp; omega
    have hcap := hb.cap
    (repeat (first | ((with_reducible refine Tr.step rfl ?_); (with_reducible refine Knd.assign ?_); (refine xaQ (z := ?_))) | (with_reducible first | apply Tr.next | apply Tr.seq | apply Tr.nil)))
    (((apply Tr.draw); (kernel_rfl)); (refine tkQ 0 (hB := by exact fun _ h => h) (s := by exact Stab.move rfl) (h := ?_)); (refine tkQ 1 (s := by exact Stab.nilCheck rfl) (h := ?_)); (refine tkQ 2 (s := by exact sfQ) (h := ?_)); (refine tkQ 3 (s := by exact slQ) (h := ?_)); (refine tkQ 4 (s := by exact Stab.move rfl) (h := ?_)); ((refine tgQ 5 (s := by exact Stab.move rfl) (h := ?_))); ((refine tgQ 6 (s := by exact Stab.move rfl) (h := ?_))); ((refine tgQ 11 (s := by exact Stab.move rfl) (h := ?_))); ((refine tgQ 7 (s := by exact Stab.nilCheck rfl) (h := ?_))); ((refine tgQ 12 (s := by exact Stab.nilCheck rfl) (h := ?_))); ((refine tgQ 8 (s := by exact sfQ) (h := ?_))); ((refine tgQ 13 (s := by exact sfQ) (h := ?_))); ((refine tgQ 9 (s := by exact slQ) (h := ?_))); ((refine tgQ 14 (s := by exact slQ) (h := ?_))); ((refine tgQ 10 (s := by exact snQ) (h := ?_))); ((refine tgQ 15 (s := by exact Stab.subi rfl rfl (by omega)) (h := ?_))); ((refine tgQ 16 (s := by exact Stab.convu64 rfl (tysOk.get rfl) (tysOk.get rfl) rfl rfl (by omega)) (h := ?_))); ((refine tgQ 17 (s := by exact siQ) (h := ?_))); (refine tkQ 18 (s := by exact Stab.pick_f rfl (by (with_reducible rfl)) rfl) (h := ?_)); (refine TrA.done (by kernel_rfl) ?_))
    (repeat (first | ((with_reducible refine Tr.step rfl ?_); (first | (refine xmQ (z := ?_)) | (refine xlQ (z := ?_)) | (refine xfQ (z := ?_)) | ((with_reducible refine Knd.nilCheck ?_); (refine Exec.stab rfl (Stab.nilCheck rfl) rfl ?_)) | (refine xdQ (z := ?_)) | (refine xSQ (z := ?_)) | ((with_reducible refine Knd.convert ?_); (refine Exec.stab rfl (Stab.convi rfl (tysOk.get rfl) (tysOk.get rfl) rfl rfl (by omega)) rfl ?_)))) | (with_reducible first | apply Tr.next | apply Tr.seq | apply Tr.region | apply Tr.nil | apply Tr.skip) | (refine Tr.cond_f rfl (by first | (with_reducible assumption) | omega) ?_)))
    rw [show (at_ : Int) + (u : Int) = ((at_ + u : Nat) : Int) by omega]
    clear hb
    (((apply Tr.draw); (kernel_rfl)); (refine tkQ 0 (hB := by exact fun _ h => h) (s := by exact Stab.move rfl) (h := ?_)); (refine tkQ 4 (s := by exact Stab.move rfl) (h := ?_)); (refine tkQ 8 (s := by exact Stab.move rfl) (h := ?_)); (refine tkQ 11 (s := by exact Stab.move rfl) (h := ?_)); (refine tkQ 1 (s := by exact Stab.nilCheck rfl) (h := ?_)); (refine tkQ 5 (s := by exact Stab.nilCheck rfl) (h := ?_)); (refine tkQ 9 (s := by exact Stab.convi rfl (tysOk.get rfl) (tysOk.get rfl) rfl rfl (by omega)) (h := ?_)); (refine tkQ 12 (s := by exact Stab.nilCheck rfl) (h := ?_)); (refine tkQ 2 (s := by exact sfQ) (h := ?_)); (refine tkQ 6 (s := by exact sfQ) (h := ?_)); (refine tkQ 13 (s := by exact sfQ) (h := ?_)); (refine tkQ 3 (s := by exact slQ) (h := ?_)); (refine tkQ 7 (s := by exact slQ) (h := ?_)); (refine tkQ 14 (s := by exact slQ) (h := ?_)); (refine tkQ 10 (s := by exact Stab.subi rfl rfl (by omega)) (h := ?_)))
    rw [show ((at_ + u : Nat) : Int) - (u : Int) = (at_ : Int) by omega]
    ((refine tkQ 15 (s := by exact Stab.slice_lh rfl rfl rfl (tysOk.get rfl) rfl (tysOk.get rfl) rfl (by omega) (by omega) (by omega)) (h := ?_)); (refine tkQ 16 (s := by exact Stab.bstrB rfl (tysOk.get rfl) (tysOk.get rfl) rfl rfl (tysOk.get rfl) rfl (by assumption)) (h := ?_)); (refine tkQ 17 (s := by exact Stab.build tysOk rfl rfl rfl rfl (by repeat (first | exact BuildP.nil | ((apply BuildP.one); (rfl); (rfl); (first | rfl | assumption); (repeat (first | exact SetL.z | apply SetL.s)))))) (h := ?_)); (refine TrA.effD 18 rfl (by kernel_rfl) (by kernel_rfl) (by exact .inl rfl) ?_); (((refine Knd.store ?_); ((refine xWQ (z := ?_))))); (refine ⟨_, fun _ h => h, ?_⟩); (refine TrA.done (by kernel_rfl) ?_))
    (repeat (first | (with_reducible first | apply Tr.next | apply Tr.ret | apply Tr.then_ret | apply Tr.in_ret)))
    refine Tr.doneB (A' := [box p 113 _]) [box b4 53 _] (by first | exact .inl rfl | exact .inr rfl) rfl (by repeat (first | exact RVs.nil | (apply RVs.cons; (exact RV.cellW (by rfl) (tysOk.get (by rfl)) (by rfl) (by repeat (first | exact Has.here | apply Has.there)) (by first | rfl | assumption))))) (Mem.le.refl _) (List.Perm.swap _ _ _) ?_
    exact ⟨_, at_ + u, false, ⟨_, rfl, RVal.close (A := none) (c := 0) (l := []) (by omega) (by omega) hsl (SlOf.nil _ _ _)⟩, by omega, by omega, rfl, .inl ⟨rfl, by rw [rdV_eq, rdStep_cons, if_neg k1, if_pos k2, hn]; dsimp only; rw [if_pos (by simp; omega), Nat.add_sub_cancel_left, List.drop_drop]⟩⟩
  by_cases k3 : x.toNat = 3
  rotate_left
  · (repeat (first | ((with_reducible refine Tr.step rfl ?_); (first | (refine xmQ (z := ?_)) | (refine xaQ (z := ?_)) | (refine xfQ (z := ?_)) | ((with_reducible refine Knd.nilCheck ?_); (refine Exec.stab rfl (Stab.nilCheck rfl) rfl ?_)) | (refine xiQ (z := ?_)) | ((with_reducible refine Knd.store ?_); (first | (refine xSQ (z := ?_)) | (refine xWQ (z := ?_)))) | ((with_reducible refine Knd.build ?_); (refine Exec.stab rfl (Stab.build tysOk rfl rfl rfl rfl (by repeat (exact BuildP.nil))) rfl ?_)))) | (with_reducible first | apply Tr.next | apply Tr.seq | apply Tr.region | apply Tr.nil | apply Tr.skip | apply Tr.block | apply Tr.ret | apply Tr.in_normal) | (refine Tr.cond_f rfl (by first | (with_reducible assumption) | omega) ?_)))
    refine Tr.doneB (A' := [box p 113 _]) [box b4 53 _] (by first | exact .inl rfl | exact .inr rfl) rfl (by repeat (first | exact RVs.nil | (apply RVs.cons; (exact RV.cellW (by rfl) (tysOk.get (by rfl)) (by rfl) (by repeat (first | exact Has.here | apply Has.there)) (by first | rfl | assumption))))) (Mem.le.refl _) (List.Perm.swap _ _ _) ?_
    exact ⟨zVal, i + 1, true, RV.zero _, hi1, by omega, rfl, .inr ⟨rfl, by rw [rdV_eq, rdStep_cons, if_neg k1, if_neg k2, if_neg k3]⟩⟩
  (repeat (first | ((with_reducible refine Tr.step rfl ?_); (first | (refine xmQ (z := ?_)) | (refine xaQ (z := ?_)) | (refine xiQ (z := ?_)))) | (with_reducible first | apply Tr.next | apply Tr.seq | apply Tr.region | apply Tr.nil | apply Tr.block) | (refine Tr.cond_t rfl (by first | (with_reducible assumption) | omega) ?_) | (refine Tr.cond_f rfl (by first | (with_reducible assumption) | omega) ?_)))
  ((refine Tr.step rfl ?_))
  refine Exec.call (A := [rdr p A bs.length c (i + 1) false]) rfl (rnumber_fn M p A c bs hb (i + 1) hi1) (List.Perm.refl _) rfl ?_
  rintro _ _ _ - ⟨rfl, n, at0, bad, hu, hat0, hia, rfl, rfl, hcase⟩
  unfold rdr
  rcases hcase with ⟨rfl, hn⟩ | ⟨rfl, hn⟩
  rotate_left
  · (repeat (first | ((with_reducible refine Tr.step rfl ?_); (with_reducible refine Knd.assign ?_); (refine xaQ (z := ?_))) | (with_reducible first | apply Tr.next | apply Tr.seq | apply Tr.nil)))
    (((apply Tr.draw); (kernel_rfl)); (refine tkQ 0 (hB := by exact fun _ h => h) (s := by exact Stab.move rfl) (h := ?_)); (refine tkQ 1 (s := by exact Stab.nilCheck rfl) (h := ?_)); (refine tkQ 2 (s := by exact sfQ) (h := ?_)); (refine tkQ 3 (s := by exact slQ) (h := ?_)); (refine tkQ 4 (s := by exact Stab.move rfl) (h := ?_)); ((refine tuQ 5 (h := ?_))); ((refine tuQ 6 (h := ?_))); ((refine tuQ 11 (h := ?_))); ((refine tuQ 7 (h := ?_))); ((refine tuQ 12 (h := ?_))); ((refine tuQ 8 (h := ?_))); ((refine tuQ 13 (h := ?_))); ((refine tuQ 9 (h := ?_))); ((refine tuQ 14 (h := ?_))); ((refine tuQ 10 (h := ?_))); ((refine tuQ 15 (h := ?_))); ((refine tuQ 16 (h := ?_))); ((refine tuQ 17 (h := ?_))); (refine tkQ 18 (s := by exact Stab.pick_t rfl (by (with_reducible rfl)) rfl) (h := ?_)); (refine tkQ 19 (s := by exact Stab.move rfl) (h := ?_)); ((refine tuQ 20 (h := ?_))); ((refine tuQ 21 (h := ?_))); (refine tkQ 22 (s := by exact Stab.pick_t rfl (by (with_reducible rfl)) rfl) (h := ?_)); (refine TrA.done (by kernel_rfl) ?_))
    (repeat (first | ((with_reducible refine Tr.step rfl ?_); (first | (refine xmQ (z := ?_)) | (refine xfQ (z := ?_)) | ((with_reducible refine Knd.nilCheck ?_); (refine Exec.stab rfl (Stab.nilCheck rfl) rfl ?_)) | ((with_reducible refine Knd.store ?_); (first | (refine xSQ (z := ?_)) | (refine xWQ (z := ?_)))) | ((with_reducible refine Knd.build ?_); (refine Exec.stab rfl (Stab.build tysOk rfl rfl rfl rfl (by repeat (exact BuildP.nil))) rfl ?_)))) | (with_reducible first | apply Tr.next | apply Tr.seq | apply Tr.region | apply Tr.nil | apply Tr.ret | apply Tr.then_ret | apply Tr.in_ret) | (refine Tr.cond_bt rfl (by (with_reducible rfl)) ?_)))
    refine Tr.doneB (A' := [box p 113 _]) [box b4 53 _] (by first | exact .inl rfl | exact .inr rfl) rfl (by repeat (first | exact RVs.nil | (apply RVs.cons; (exact RV.cellW (by rfl) (tysOk.get (by rfl)) (by rfl) (by repeat (first | exact Has.here | apply Has.there)) (by first | rfl | assumption))))) (Mem.le.refl _) (List.Perm.swap _ _ _) ?_
    refine ⟨zVal, at0, true, RV.zero _, hat0, by omega, rfl, .inr ⟨rfl, ?_⟩⟩
    rw [rdV_eq, rdStep_cons, if_neg k1, if_neg k2, if_pos k3]
    cases room <;> dsimp only
    rw [hn]
  have hu' : n ≤ 18446744073709551615 := by omega
  by_cases hle : n ≤ bs.length - at0
  rotate_left
  · (repeat (first | ((with_reducible refine Tr.step rfl ?_); (with_reducible refine Knd.assign ?_); (refine xaQ (z := ?_))) | (with_reducible first | apply Tr.next | apply Tr.seq | apply Tr.nil)))
    (((apply Tr.draw); (kernel_rfl)); (refine tkQ 0 (hB := by exact fun _ h => h) (s := by exact Stab.move rfl) (h := ?_)); (refine tkQ 1 (s := by exact Stab.nilCheck rfl) (h := ?_)); (refine tkQ 2 (s := by exact sfQ) (h := ?_)); (refine tkQ 3 (s := by exact slQ) (h := ?_)); (refine tkQ 4 (s := by exact Stab.move rfl) (h := ?_)); ((refine tgQ 5 (s := by exact Stab.move rfl) (h := ?_))); ((refine tgQ 6 (s := by exact Stab.move rfl) (h := ?_))); ((refine tgQ 11 (s := by exact Stab.move rfl) (h := ?_))); ((refine tgQ 7 (s := by exact Stab.nilCheck rfl) (h := ?_))); ((refine tgQ 12 (s := by exact Stab.nilCheck rfl) (h := ?_))); ((refine tgQ 8 (s := by exact sfQ) (h := ?_))); ((refine tgQ 13 (s := by exact sfQ) (h := ?_))); ((refine tgQ 9 (s := by exact slQ) (h := ?_))); ((refine tgQ 14 (s := by exact slQ) (h := ?_))); ((refine tgQ 10 (s := by exact snQ) (h := ?_))); ((refine tgQ 15 (s := by exact Stab.subi rfl rfl (by omega)) (h := ?_))); ((refine tgQ 16 (s := by exact Stab.convu64 rfl (tysOk.get rfl) (tysOk.get rfl) rfl rfl (by omega)) (h := ?_))); ((refine tgQ 17 (s := by exact siQ) (h := ?_))); (refine tkQ 18 (s := by exact Stab.pick_f rfl (by (with_reducible rfl)) rfl) (h := ?_)); (refine tkQ 19 (s := by exact Stab.move rfl) (h := ?_)); ((refine tuQ 20 (h := ?_))); ((refine tuQ 21 (h := ?_))); (refine tkQ 22 (s := by exact Stab.pick_td rfl (by omega) rfl) (h := ?_)); (refine TrA.done (by kernel_rfl) ?_))
    (repeat (first | ((with_reducible refine Tr.step rfl ?_); (first | (refine xmQ (z := ?_)) | (refine xfQ (z := ?_)) | ((with_reducible refine Knd.nilCheck ?_); (refine Exec.stab rfl (Stab.nilCheck rfl) rfl ?_)) | ((with_reducible refine Knd.store ?_); (first | (refine xSQ (z := ?_)) | (refine xWQ (z := ?_)))) | ((with_reducible refine Knd.build ?_); (refine Exec.stab rfl (Stab.build tysOk rfl rfl rfl rfl (by repeat (exact BuildP.nil))) rfl ?_)))) | (with_reducible first | apply Tr.next | apply Tr.seq | apply Tr.region | apply Tr.nil | apply Tr.ret | apply Tr.then_ret | apply Tr.in_ret) | (refine Tr.cond_bt rfl (by (with_reducible rfl)) ?_)))
    refine Tr.doneB (A' := [box p 113 _]) [box b4 53 _] (by first | exact .inl rfl | exact .inr rfl) rfl (by repeat (first | exact RVs.nil | (apply RVs.cons; (exact RV.cellW (by rfl) (tysOk.get (by rfl)) (by rfl) (by repeat (first | exact Has.here | apply Has.there)) (by first | rfl | assumption))))) (Mem.le.refl _) (List.Perm.swap _ _ _) ?_
    refine ⟨zVal, at0, true, RV.zero _, hat0, by omega, rfl, .inr ⟨rfl, ?_⟩⟩
    rw [rdV_eq, rdStep_cons, if_neg k1, if_neg k2, if_pos k3]
    cases room with
    | zero => rfl
    | succ k =>
      dsimp only
      rw [hn]
      dsimp only
      cases hl : rdL (rdV k) n (bs.drop at0) with
      | none => rfl
      | some z =>
        obtain ⟨l, r⟩ := z
        have := rdL_count (fun bs v r h => rdV_len k bs r v h) n _ _ _ hl
        simp at this
        omega
  by_cases hr0 : room = 0
  · (repeat (first | ((with_reducible refine Tr.step rfl ?_); (with_reducible refine Knd.assign ?_); (refine xaQ (z := ?_))) | (with_reducible first | apply Tr.next | apply Tr.seq | apply Tr.nil)))
    (((apply Tr.draw); (kernel_rfl)); (refine tkQ 0 (hB := by exact fun _ h => h) (s := by exact Stab.move rfl) (h := ?_)); (refine tkQ 1 (s := by exact Stab.nilCheck rfl) (h := ?_)); (refine tkQ 2 (s := by exact sfQ) (h := ?_)); (refine tkQ 3 (s := by exact slQ) (h := ?_)); (refine tkQ 4 (s := by exact Stab.move rfl) (h := ?_)); ((refine tgQ 5 (s := by exact Stab.move rfl) (h := ?_))); ((refine tgQ 6 (s := by exact Stab.move rfl) (h := ?_))); ((refine tgQ 11 (s := by exact Stab.move rfl) (h := ?_))); ((refine tgQ 7 (s := by exact Stab.nilCheck rfl) (h := ?_))); ((refine tgQ 12 (s := by exact Stab.nilCheck rfl) (h := ?_))); ((refine tgQ 8 (s := by exact sfQ) (h := ?_))); ((refine tgQ 13 (s := by exact sfQ) (h := ?_))); ((refine tgQ 9 (s := by exact slQ) (h := ?_))); ((refine tgQ 14 (s := by exact slQ) (h := ?_))); ((refine tgQ 10 (s := by exact snQ) (h := ?_))); ((refine tgQ 15 (s := by exact Stab.subi rfl rfl (by omega)) (h := ?_))); ((refine tgQ 16 (s := by exact Stab.convu64 rfl (tysOk.get rfl) (tysOk.get rfl) rfl rfl (by omega)) (h := ?_))); ((refine tgQ 17 (s := by exact siQ) (h := ?_))); (refine tkQ 18 (s := by exact Stab.pick_f rfl (by (with_reducible rfl)) rfl) (h := ?_)); (refine tkQ 19 (s := by exact Stab.move rfl) (h := ?_)); ((refine tgQ 20 (q := (decide_eq_false (by omega))) (s := by exact Stab.move rfl) (h := ?_))); ((refine tgQ 21 (q := (decide_eq_false (by omega))) (s := by exact siQ) (h := ?_))); (refine tkQ 22 (s := by exact Stab.pick_fd rfl (by omega) rfl) (h := ?_)); (refine TrA.done (by kernel_rfl) ?_))
    (repeat (first | ((with_reducible refine Tr.step rfl ?_); (first | (refine xmQ (z := ?_)) | (refine xfQ (z := ?_)) | ((with_reducible refine Knd.nilCheck ?_); (refine Exec.stab rfl (Stab.nilCheck rfl) rfl ?_)) | ((with_reducible refine Knd.store ?_); (first | (refine xSQ (z := ?_)) | (refine xWQ (z := ?_)))) | ((with_reducible refine Knd.build ?_); (refine Exec.stab rfl (Stab.build tysOk rfl rfl rfl rfl (by repeat (exact BuildP.nil))) rfl ?_)))) | (with_reducible first | apply Tr.next | apply Tr.seq | apply Tr.region | apply Tr.nil | apply Tr.ret | apply Tr.then_ret | apply Tr.in_ret) | (refine Tr.cond_t rfl (by first | (with_reducible assumption) | omega) ?_)))
    refine Tr.doneB (A' := [box p 113 _]) [box b4 53 _] (by first | exact .inl rfl | exact .inr rfl) rfl (by repeat (first | exact RVs.nil | (apply RVs.cons; (exact RV.cellW (by rfl) (tysOk.get (by rfl)) (by rfl) (by repeat (first | exact Has.here | apply Has.there)) (by first | rfl | assumption))))) (Mem.le.refl _) (List.Perm.swap _ _ _) ?_
    refine ⟨zVal, at0, true, RV.zero _, hat0, by omega, rfl, .inr ⟨rfl, ?_⟩⟩
    rw [rdV_eq, rdStep_cons, if_neg k1, if_neg k2, if_pos k3]
    subst hr0
    rfl
  obtain ⟨k, rfl⟩ : ∃ k, room = k + 1 := ⟨room - 1, by omega⟩
  have ihk := ih k (by omega) (by omega)
  have hdep : ((16 - (k + 1) : Nat) : Int) + 1 = ((16 - k : Nat) : Int) := by omega
  (repeat (first | ((with_reducible refine Tr.step rfl ?_); (with_reducible refine Knd.assign ?_); (refine xaQ (z := ?_))) | (with_reducible first | apply Tr.next | apply Tr.seq | apply Tr.nil)))
  (((apply Tr.draw); (kernel_rfl)); (refine tkQ 0 (hB := by exact fun _ h => h) (s := by exact Stab.move rfl) (h := ?_)); (refine tkQ 1 (s := by exact Stab.nilCheck rfl) (h := ?_)); (refine tkQ 2 (s := by exact sfQ) (h := ?_)); (refine tkQ 3 (s := by exact slQ) (h := ?_)); (refine tkQ 4 (s := by exact Stab.move rfl) (h := ?_)); ((refine tgQ 5 (s := by exact Stab.move rfl) (h := ?_))); ((refine tgQ 6 (s := by exact Stab.move rfl) (h := ?_))); ((refine tgQ 11 (s := by exact Stab.move rfl) (h := ?_))); ((refine tgQ 7 (s := by exact Stab.nilCheck rfl) (h := ?_))); ((refine tgQ 12 (s := by exact Stab.nilCheck rfl) (h := ?_))); ((refine tgQ 8 (s := by exact sfQ) (h := ?_))); ((refine tgQ 13 (s := by exact sfQ) (h := ?_))); ((refine tgQ 9 (s := by exact slQ) (h := ?_))); ((refine tgQ 14 (s := by exact slQ) (h := ?_))); ((refine tgQ 10 (s := by exact snQ) (h := ?_))); ((refine tgQ 15 (s := by exact Stab.subi rfl rfl (by omega)) (h := ?_))); ((refine tgQ 16 (s := by exact Stab.convu64 rfl (tysOk.get rfl) (tysOk.get rfl) rfl rfl (by omega)) (h := ?_))); ((refine tgQ 17 (s := by exact siQ) (h := ?_))); (refine tkQ 18 (s := by exact Stab.pick_f rfl (by (with_reducible rfl)) rfl) (h := ?_)); (refine tkQ 19 (s := by exact Stab.move rfl) (h := ?_)); ((refine tgQ 20 (q := (decide_eq_false (by omega))) (s := by exact Stab.move rfl) (h := ?_))); ((refine tgQ 21 (q := (decide_eq_false (by omega))) (s := by exact siQ) (h := ?_))); (refine tkQ 22 (s := by exact Stab.pick_fd rfl (by omega) rfl) (h := ?_)); (refine TrA.done (by kernel_rfl) ?_))
  (repeat (first | ((with_reducible refine Tr.step rfl ?_); (first | (refine xaQ (z := ?_)) | (refine xWQ (z := ?_)) | ((with_reducible refine Knd.alloc ?_); (refine Exec.alloc (tysOk.get rfl) rfl rfl (fun b => ?_))) | ((with_reducible refine Knd.build ?_); (refine Exec.stab rfl (Stab.build tysOk rfl rfl rfl rfl (by repeat (first | exact BuildP.nil | ((apply BuildP.one); (rfl); (rfl); (first | rfl | assumption); (repeat (first | exact SetL.z | apply SetL.s)))))) rfl ?_)))) | (with_reducible first | apply Tr.next | apply Tr.seq | apply Tr.region | apply Tr.nil | apply Tr.skip | apply Tr.block) | (refine Tr.cond_f rfl (by first | (with_reducible assumption) | omega) ?_)))
  generalize hb8 : b = b8
  refine Tr.own_nil 53 4 ?_
  refine Tr.perm (L' := box p 113 [.slice A bs.length c, .int .i64 (at0 : Int), .bool false] :: ownS 53 4 none 0 0 [] :: box b8 53 [.int .i64 3, .int .i64 0, .string ⟨#[]⟩, .slice none 0 0] :: box b4 53 [.int .i64 0, .int .i64 0, .string ⟨#[]⟩, .slice none 0 0] :: ([] ++ F)) ((List.Perm.swap _ _ _).trans ((List.Perm.swap _ _ _).cons _)) ?_
  refine Tr.loop (α := Nat × List Val × Nat × Bool × Mem × Option Addr × Nat × List Value) (fun y => ⟨142, [(9, .int .u64 (y.1 : Int)), (7, .int .u64 (n : Int)), (8, .pointer (some ⟨b8, 0, none⟩)), (4, .pointer (some ⟨b4, 0, none⟩)), (0, .pointer (some ⟨p, 0, none⟩)), (1, .int .i64 ((16 - (k + 1) : Nat) : Int))], [], y.2.2.2.2.1,
      box p 113 [.slice A bs.length c, .int .i64 (y.2.2.1 : Int), .bool y.2.2.2.1] :: ownS 53 4 y.2.2.2.2.2.1 y.2.1.length y.2.2.2.2.2.2.1 y.2.2.2.2.2.2.2 :: box b8 53 [.int .i64 3, .int .i64 0, .string ⟨#[]⟩, .slice y.2.2.2.2.2.1 y.2.1.length y.2.2.2.2.2.2.1] :: box b4 53 [.int .i64 0, .int .i64 0, .string ⟨#[]⟩, .slice none 0 0] :: ([] ++ F)⟩)
    (fun y => y.1 ≤ n ∧ y.2.1.length = y.1 ∧ at0 ≤ y.2.2.1 ∧ y.2.2.1 ≤ bs.length ∧ Mem.le M y.2.2.2.2.1 ∧ y.2.2.2.2.2.2.1 ≤ 9223372036854775807 ∧ Elems 4 (fun M c x => RVal M c x) y.2.2.2.2.1 y.2.2.2.2.2.2.2 y.2.1 ∧
      (y.2.2.2.1 = false → rdL (rdV k) n (bs.drop at0) = (rdL (rdV k) (n - y.1) (bs.drop y.2.2.1)).map fun z => (y.2.1 ++ z.1, z.2)) ∧ (y.2.2.2.1 = true → rdL (rdV k) n (bs.drop at0) = none))
    (fun y => n - y.1) (0, [], at0, false, M, none, 0, []) ⟨Nat.zero_le _, rfl, Nat.le_refl _, hat0, Mem.le.refl _, by simp, Elems.nil, fun _ => by simp only [Nat.sub_zero]; cases rdL (rdV k) n (bs.drop at0) <;> simp, fun h => by cases h⟩ hsQ (fun y hy => ?_)
  obtain ⟨j, l, at_, bad, M1, A3, c3, cells⟩ := y
  obtain ⟨i1, i2, i3, i4, i5, i6, i7, i8, i9⟩ := hy
  simp only at i1 i2 i3 i4 i5 i6 i7 i8 i9
  dsimp only
  have hb1 := hb.mono i5
  have hfin : (hx : bad = true ∨ n ≤ j) → ∀ l', l' = l → (bad = false ∧ rdV (k + 1) (x :: bs.drop (i + 1)) = some (.mk 3 0 [] l', bs.drop at_)) ∨ (bad = true ∧ rdV (k + 1) (x :: bs.drop (i + 1)) = none) := by
    rintro hx l' rfl
    cases hbad : bad with
    | true => exact .inr ⟨rfl, by rw [rdV_eq, rdStep_cons, if_neg k1, if_neg k2, if_pos k3]; dsimp only; rw [hn]; dsimp only; rw [i9 hbad]; rfl⟩
    | false =>
      have hj : j = n := by rcases hx with hx | hx; · rw [hbad] at hx; cases hx
                            · omega
      have := i8 hbad
      rw [hj, Nat.sub_self] at this
      exact .inl ⟨rfl, by rw [rdV_eq, rdStep_cons, if_neg k1, if_neg k2, if_pos k3]; dsimp only; rw [hn]; dsimp only; rw [this]; simp [rdL]⟩
  by_cases hlt : j < n
  · cases hbad : bad with
    | true =>
      refine pbQ (r := ownS 53 4 _ _ _ _) (k := fun M2 hm2 hok2 => ?_)
      have hs := SlOf.ofOwn hok2 rfl i6 (i7.mono RVal.mono' hm2)
      have hm := i5.trans hm2
      (repeat (first | ((with_reducible refine Tr.step rfl ?_); (first | (refine xmQ (z := ?_)) | (refine xwQ (z := ?_)) | (refine xiQ (z := ?_)) | ((with_reducible refine Knd.pick ?_); (refine Exec.stab rfl (Stab.pick_td rfl (by omega) rfl) rfl ?_)) | (refine xWQ (z := ?_)))) | (with_reducible first | apply Tr.next | apply Tr.seq | apply Tr.region | apply Tr.nil) | ((refine Tr.guard_y rfl rfl rfl (by first | (with_reducible assumption) | omega) ?_); (first | (refine xmQ (z := ?_)) | (refine xlQ (z := ?_)) | (refine xfQ (z := ?_)) | ((with_reducible refine Knd.nilCheck ?_); (refine Exec.stab rfl (Stab.nilCheck rfl) rfl ?_)) | ((with_reducible refine Knd.unOp ?_); (refine Exec.stab rfl (Stab.not rfl) rfl ?_)))) | (with_reducible first | apply Tr.exit | apply Tr.ret | apply Tr.then_exit | apply Tr.then_ret | apply Tr.in_ret) | ((with_reducible refine Tr.in_exit ?_ ?_); (exact rfl)) | (refine Tr.cond_bf rfl (by first | (with_reducible rfl) | (with_reducible exact Bool.not_true)) ?_)))
      refine Tr.doneB (A' := [box p 113 _]) [box b8 53 _, box b4 53 _] (by first | exact .inl rfl | exact .inr rfl) rfl (by repeat (first | exact RVs.nil | (apply RVs.cons; (exact RV.cellW (by rfl) (tysOk.get (by rfl)) (by rfl) (by repeat (first | exact Has.here | apply Has.there)) (by first | rfl | assumption))))) hm ((List.Perm.swap _ _ _).trans ((List.Perm.swap _ _ _).cons _)) ?_
      exact ⟨_, at_, true, ⟨_, rfl, RVal.close (s := []) (by omega) (by omega) (by simp) hs⟩, i4, by omega, rfl, by have := hfin (.inl hbad) l rfl; rw [hbad] at this; exact this⟩
    | false =>
      have i8 := i8 hbad
      (repeat (first | ((with_reducible refine Tr.step rfl ?_); (first | (refine xmQ (z := ?_)) | (refine xiQ (z := ?_)) | ((with_reducible refine Knd.pick ?_); (refine Exec.stab rfl (Stab.pick_td rfl (by omega) rfl) rfl ?_)))) | (with_reducible first | apply Tr.next | apply Tr.seq | apply Tr.region | apply Tr.nil) | ((refine Tr.guard_y rfl rfl rfl (by first | (with_reducible assumption) | omega) ?_); (first | (refine xmQ (z := ?_)) | (refine xlQ (z := ?_)) | (refine xfQ (z := ?_)) | ((with_reducible refine Knd.nilCheck ?_); (refine Exec.stab rfl (Stab.nilCheck rfl) rfl ?_)) | ((with_reducible refine Knd.unOp ?_); (refine Exec.stab rfl (Stab.not rfl) rfl ?_)))) | (with_reducible first | apply Tr.skip | apply Tr.block) | (refine Tr.cond_bt rfl (by first | (with_reducible rfl) | (with_reducible exact Bool.not_false)) ?_)))
      (((apply Tr.draw (box b8 53 [.int .i64 3, .int .i64 0, .string ⟨#[]⟩, .slice A3 l.length c3] :: _)); (kernel_rfl)); (refine tkQ 0 (hB := by exact (Sub.mem (by repeat (first | exact Sub.refl | apply Sub.cons)))) (s := by exact sfQ) (h := ?_)); (refine tkQ 2 (s := by exact Stab.move rfl) (h := ?_)); (refine tkQ 3 (s := by exact Stab.move rfl) (h := ?_)); (refine tkQ 1 (s := by exact slQ) (h := ?_)); (refine tkQ 4 (s := by exact Stab.addi rfl rfl (by omega)) (h := ?_)))
      rw [hdep]
      ((refine TrA.eff 5 rfl (by kernel_rfl) (by exact .inl rfl) ?_))
      refine Exec.call (A := [rdr p A bs.length c at_ false]) rfl (ihk M1 p A c bs at_ hb1 hlen i4) (List.Perm.refl _) rfl ?_
      rintro r M2 _ hm ⟨v, at2, bad2, hRV, hat2, hle2, rfl, hcase⟩
      obtain ⟨A5, c5, rfl, hRV', -⟩ := hRV.open_
      refine ⟨hm, (by exact (Sub.mem (by repeat (first | exact Sub.refl | apply Sub.cons)))), ?_⟩
      unfold rdr
      ((refine TrA.eff 6 rfl (by kernel_rfl) (by exact .inl rfl) ?_); (((refine Knd.buildSlice ?_); ((refine Exec.buildSlice (tysOk.get rfl) rfl (tysOk.get rfl) rfl rfl rfl rfl rfl (by repeat (first | exact BuildP.nil | ((apply BuildP.many); (rfl); (rfl); (rfl); (rfl); (repeat (first | exact PutL.nil | ((apply PutL.cons); (repeat (first | exact SetL.z | apply SetL.s)))))))) rfl (fun b => ?_))))); (refine ⟨(by first | exact Mem.le.refl _ | assumption), (by exact (Sub.mem (by repeat (first | exact Sub.refl | apply Sub.cons)))), ?_⟩); (refine TrA.eff 7 rfl (by kernel_rfl) (by exact .inl rfl) ?_))
      refine Exec.append (news := [.int .i64 v.k, .int .i64 v.n, .string ⟨v.s.toArray⟩, .slice A5 v.l.length c5]) rfl rfl (tysOk.get rfl) rfl (tysOk.get rfl) rfl rfl rfl rfl (by repeat (first | exact Del.here | apply Del.there)) (Src.box (by repeat (first | exact Has.here | apply Has.there))) rfl (by intro u hu; simp at hu; rcases hu with rfl | rfl | rfl | rfl <;> rfl) (by omega) (by omega) rfl (fun A6 c6 hc6 => ?_)
      refine ⟨Mem.le.refl _, (by exact (Sub.mem (by repeat (first | exact Sub.refl | apply Sub.cons)))), ?_⟩
      rw [show l.length + 1 = (l ++ [v]).length by simp]
      ((refine tkQ 8 (s := by exact sfQ) (h := ?_)); (refine TrA.effD 9 rfl (by kernel_rfl) (by kernel_rfl) (by exact .inl rfl) ?_); (((refine Knd.store ?_); ((refine xSQ (z := ?_))))); (refine ⟨_, fun _ h => h, ?_⟩); (refine TrA.done (by kernel_rfl) ?_))
      (repeat (first | ((with_reducible refine Tr.step rfl ?_); (first | (refine xmQ (z := ?_)) | (refine xaQ (z := ?_)) | ((with_reducible refine Knd.binOp ?_); (refine Exec.stab rfl (Stab.addu64 rfl rfl (by omega)) rfl ?_)))) | (with_reducible first | apply Tr.next | apply Tr.region | apply Tr.nil | apply Tr.in_normal)))
      refine gvQ (r := box _ 53 _) (k := ?_)
      refine Tr.perm (List.Perm.swap _ _ _) ?_
      obtain ⟨ccs, ecs, hcs⟩ := hRV'
      have ecs' : ccs = [.int .i64 v.k, .int .i64 v.n, .string ⟨v.s.toArray⟩, .slice A5 v.l.length c5] := by
        have := Value.agg.inj ecs
        simpa using (congrArg Array.toList this).symm
      subst ecs'
      refine Tr.again (j + 1, l ++ [v], at2, bad2, M2, A6, c6, _) ⟨by simp only; omega, by simp [i2], by simp only; omega, hat2, i5.trans hm, hc6, (i7.mono RVal.mono' hm).append (Elems.one rfl hcs), ?_, ?_⟩ (by simp only; omega) hsQ
      · rintro rfl
        rcases hcase with ⟨-, h⟩ | ⟨h, -⟩
        · exact rdL_snoc hlt i8 h
        · cases h
      · rintro rfl
        rcases hcase with ⟨h, -⟩ | ⟨-, h⟩
        · cases h
        · exact rdL_fail hlt i8 h
  · refine pbQ (r := ownS 53 4 _ _ _ _) (k := fun M2 hm2 hok2 => ?_)
    have hs := SlOf.ofOwn hok2 rfl i6 (i7.mono RVal.mono' hm2)
    have hm := i5.trans hm2
    (repeat (first | ((with_reducible refine Tr.step rfl ?_); (first | (refine xmQ (z := ?_)) | (refine xwQ (z := ?_)) | (refine xiQ (z := ?_)) | ((with_reducible refine Knd.pick ?_); (refine Exec.stab rfl (Stab.pick_fd rfl (by omega) rfl) rfl ?_)) | (refine xWQ (z := ?_)))) | (with_reducible first | apply Tr.next | apply Tr.seq | apply Tr.region | apply Tr.nil) | (refine Tr.guard_n rfl rfl rfl (by first | (with_reducible assumption) | omega) rfl rfl ?_) | (with_reducible first | apply Tr.exit | apply Tr.ret | apply Tr.then_exit | apply Tr.then_ret | apply Tr.in_ret) | ((with_reducible refine Tr.in_exit ?_ ?_); (exact rfl)) | (refine Tr.cond_bf rfl (by (with_reducible rfl)) ?_)))
    refine Tr.doneB (A' := [box p 113 _]) [box b8 53 _, box b4 53 _] (by first | exact .inl rfl | exact .inr rfl) rfl (by repeat (first | exact RVs.nil | (apply RVs.cons; (exact RV.cellW (by rfl) (tysOk.get (by rfl)) (by rfl) (by repeat (first | exact Has.here | apply Has.there)) (by first | rfl | assumption))))) hm ((List.Perm.swap _ _ _).trans ((List.Perm.swap _ _ _).cons _)) ?_
    exact ⟨_, at_, bad, ⟨_, rfl, RVal.close (s := []) (by omega) (by omega) (by simp) hs⟩, i4, by omega, rfl, hfin (.inr (by omega)) l rfl⟩
end Go.Proofs.YtghjhdbmkilakaaGreatDoor

/-
  The codec: the contract of the reference's Decode; CodecDecodeSpec walked.
  Conditions: none.
-/
namespace Go.Proofs.YtghjhdbmkilakaaGreatDoor
open Go Bf
attribute [local irreducible] Tr Exec Stab HasTy Go.Addr.add IntKind.wrap
set_option maxHeartbeats 4000000 in
theorem rdecode_fn (M : Mem) (A : Option Addr) (c : Nat) (bs : List UInt8) (hb : BSl M (.slice A bs.length c) bs) (hl : bs.length ≤ 1000000000) :
    Fn0 Tryz.prog 27 [.slice A bs.length c] M (fun r M' => RVE M' r (decF bs)) := by
  refine Fn.intro Tryz.func27 rfl rfl Tryz.ntmps27 rfl fun E F => ?_
  (repeat (first | ((with_reducible refine Tr.step rfl ?_); (first | (refine xmQ (z := ?_)) | (refine xaQ (z := ?_)) | ((with_reducible refine Knd.box ?_); (refine Exec.box rfl rfl (fun b => ?_))) | ((with_reducible refine Knd.alloc ?_); (refine Exec.alloc (tysOk.get rfl) rfl rfl (fun b => ?_))) | ((with_reducible refine Knd.build ?_); (refine Exec.stab rfl (Stab.build tysOk rfl rfl rfl rfl (by repeat (first | exact BuildP.nil | ((apply BuildP.one); (rfl); (rfl); (first | rfl | assumption); (repeat (first | exact SetL.z | apply SetL.s)))))) rfl ?_)))) | (with_reducible first | apply Tr.next | apply Tr.seq | apply Tr.region | apply Tr.nil)))
  generalize hbp : b = bp
  rename_i b2
  ((refine Tr.step rfl ?_))
  refine Exec.call (A := [rdr bp A bs.length c 0 false]) rfl (rvalue_fn 16 (by omega) M bp A c bs 0 hb hl (by omega)) (List.Perm.refl _) rfl ?_
  rintro r M1 _ hm1 ⟨v, at_, bad, hRV, hat, -, rfl, hcase⟩
  obtain ⟨A5, c5, rfl, hRV', -⟩ := hRV.open_
  have hb1 := hb.mono hm1
  rw [List.drop_zero] at hcase
  unfold rdr
  (repeat (first | ((with_reducible refine Tr.step rfl ?_); (first | (refine xWQ (z := ?_)) | ((with_reducible refine Knd.alloc ?_); (refine Exec.alloc (tysOk.get rfl) rfl rfl (fun b => ?_))))) | (with_reducible first | apply Tr.next | apply Tr.seq | apply Tr.nil)))
  rcases hcase with ⟨rfl, hv⟩ | ⟨rfl, hv⟩
  rotate_left
  · have e : decF bs = (zVal, 10) := by unfold decF; rw [hv]
    rw [e]
    (((apply Tr.draw); (kernel_rfl)); (refine tkQ 0 (hB := by exact fun _ h => h) (s := by exact Stab.move rfl) (h := ?_)); (refine tkQ 1 (s := by exact Stab.nilCheck rfl) (h := ?_)); (refine tkQ 2 (s := by exact sfQ) (h := ?_)); (refine tkQ 3 (s := by exact slQ) (h := ?_)); (refine tkQ 4 (s := by exact Stab.move rfl) (h := ?_)); ((refine tuQ 5 (h := ?_))); ((refine tuQ 9 (h := ?_))); ((refine tuQ 6 (h := ?_))); ((refine tuQ 10 (h := ?_))); ((refine tuQ 7 (h := ?_))); ((refine tuQ 8 (h := ?_))); ((refine tuQ 11 (h := ?_))); (refine tkQ 12 (s := by exact Stab.pick_t rfl (by (with_reducible rfl)) rfl) (h := ?_)); (refine tkQ 13 (s := by exact Stab.move rfl) (h := ?_)); ((refine tuQ 14 (h := ?_))); ((refine tuQ 15 (h := ?_))); ((refine tuQ 16 (h := ?_))); (refine tkQ 17 (s := by exact Stab.pick_t rfl (by (with_reducible rfl)) rfl) (h := ?_)); (refine tkQ 18 (s := by exact Stab.move rfl) (h := ?_)); ((refine tuQ 19 (h := ?_))); ((refine tuQ 20 (h := ?_))); ((refine tuQ 22 (h := ?_))); ((refine tuQ 21 (h := ?_))); ((refine tuQ 23 (h := ?_))); ((refine tuQ 24 (h := ?_))); (refine tkQ 25 (s := by exact Stab.pick_t rfl (by (with_reducible rfl)) rfl) (h := ?_)); (refine TrA.done (by kernel_rfl) ?_))
    (repeat (first | ((with_reducible refine Tr.step rfl ?_); (first | (refine xaQ (z := ?_)) | (refine xWQ (z := ?_)) | ((with_reducible refine Knd.build ?_); (refine Exec.stab rfl (Stab.build tysOk rfl rfl rfl rfl (by repeat (exact BuildP.nil))) rfl ?_)))) | (with_reducible first | apply Tr.next | apply Tr.seq | apply Tr.region | apply Tr.nil | apply Tr.ret | apply Tr.then_ret) | (refine Tr.cond_bt rfl (by (with_reducible rfl)) ?_)))
    (refine Tr.done (by first | exact .inl rfl | exact .inr rfl) rfl (by repeat (first | exact RVs.nil | (apply RVs.cons; (first | exact RV.tmp rfl | exact RV.cellW (by rfl) (tysOk.get (by rfl)) (by rfl) (by repeat (first | exact Has.here | apply Has.there)) (by first | rfl | assumption))))) (by first | exact Mem.le.refl _ | assumption) (by exact ⟨[_, _, _], rfl⟩) ⟨rfl, ?_⟩)
    exact ⟨_, rfl, RV.zero _⟩
  by_cases hle : at_ = bs.length
  rotate_left
  · have hne : 0 < (bs.drop at_).length := by simp; omega
    have e : decF bs = (zVal, 10) := by
      unfold decF
      rw [hv]
      cases hd : bs.drop at_ with
      | nil => rw [hd] at hne; simp at hne
      | cons _ _ => rfl
    rw [e]
    have hde : decide ((at_ : Int) ≠ (bs.length : Int)) = true := decide_eq_true (by omega)
    (((apply Tr.draw); (kernel_rfl)); (refine tkQ 0 (hB := by exact fun _ h => h) (s := by exact Stab.move rfl) (h := ?_)); (refine tkQ 1 (s := by exact Stab.nilCheck rfl) (h := ?_)); (refine tkQ 2 (s := by exact sfQ) (h := ?_)); (refine tkQ 3 (s := by exact slQ) (h := ?_)); (refine tkQ 4 (s := by exact Stab.move rfl) (h := ?_)); ((refine tgQ 5 (s := by exact Stab.move rfl) (h := ?_))); ((refine tgQ 9 (s := by exact Stab.move rfl) (h := ?_))); ((refine tgQ 6 (s := by exact Stab.nilCheck rfl) (h := ?_))); ((refine tgQ 10 (s := by exact snQ) (h := ?_))); ((refine tgQ 7 (s := by exact sfQ) (h := ?_))); ((refine tgQ 8 (s := by exact slQ) (h := ?_))); ((refine tgQ 11 (s := by exact siQ) (h := ?_))))
    rw [hde]
    ((refine tkQ 12 (s := by exact Stab.pick_f rfl (by (with_reducible rfl)) rfl) (h := ?_)); (refine tkQ 13 (s := by exact Stab.move rfl) (h := ?_)); ((refine tuQ 14 (h := ?_))); ((refine tuQ 15 (h := ?_))); ((refine tuQ 16 (h := ?_))); (refine tkQ 17 (s := by exact Stab.pick_t rfl (by (with_reducible rfl)) rfl) (h := ?_)); (refine tkQ 18 (s := by exact Stab.move rfl) (h := ?_)); ((refine tuQ 19 (h := ?_))); ((refine tuQ 20 (h := ?_))); ((refine tuQ 22 (h := ?_))); ((refine tuQ 21 (h := ?_))); ((refine tuQ 23 (h := ?_))); ((refine tuQ 24 (h := ?_))); (refine tkQ 25 (s := by exact Stab.pick_t rfl (by (with_reducible rfl)) rfl) (h := ?_)); (refine TrA.done (by kernel_rfl) ?_))
    (repeat (first | ((with_reducible refine Tr.step rfl ?_); (first | (refine xaQ (z := ?_)) | (refine xWQ (z := ?_)) | ((with_reducible refine Knd.build ?_); (refine Exec.stab rfl (Stab.build tysOk rfl rfl rfl rfl (by repeat (exact BuildP.nil))) rfl ?_)))) | (with_reducible first | apply Tr.next | apply Tr.seq | apply Tr.region | apply Tr.nil | apply Tr.ret | apply Tr.then_ret) | (refine Tr.cond_bt rfl (by (with_reducible rfl)) ?_)))
    (refine Tr.done (by first | exact .inl rfl | exact .inr rfl) rfl (by repeat (first | exact RVs.nil | (apply RVs.cons; (first | exact RV.tmp rfl | exact RV.cellW (by rfl) (tysOk.get (by rfl)) (by rfl) (by repeat (first | exact Has.here | apply Has.there)) (by first | rfl | assumption))))) (by first | exact Mem.le.refl _ | assumption) (by exact ⟨[_, _, _], rfl⟩) ⟨rfl, ?_⟩)
    exact ⟨_, rfl, RV.zero _⟩
  subst hle
  rw [List.drop_length] at hv
  obtain ⟨⟨hf, hd, ho⟩, he⟩ := rdV_inv 16 _ _ _ hv
  rw [List.append_nil] at he
  have e : decF bs = (v, 0) := by unfold decF; rw [hv]
  rw [e]
  have hck := rcheck_fn M1 v _ hRV' (by omega)
  rw [chk_zero.2 ⟨hf, hd⟩] at hck
  have hre := rencode_fn v M1 _ hRV' hf (by rw [← he]; omega)
  rw [← he] at hre
  have hde : decide ((bs.length : Int) ≠ (bs.length : Int)) = false := decide_eq_false (not_not_intro rfl)
  have hd0 : decide ((0 : Int) ≠ 0) = false := rfl
  (((apply Tr.draw); (kernel_rfl)); (refine tkQ 0 (hB := by exact fun _ h => h) (s := by exact Stab.move rfl) (h := ?_)); (refine tkQ 1 (s := by exact Stab.nilCheck rfl) (h := ?_)); (refine tkQ 2 (s := by exact sfQ) (h := ?_)); (refine tkQ 3 (s := by exact slQ) (h := ?_)); (refine tkQ 4 (s := by exact Stab.move rfl) (h := ?_)); ((refine tgQ 5 (s := by exact Stab.move rfl) (h := ?_))); ((refine tgQ 9 (s := by exact Stab.move rfl) (h := ?_))); ((refine tgQ 6 (s := by exact Stab.nilCheck rfl) (h := ?_))); ((refine tgQ 10 (s := by exact snQ) (h := ?_))); ((refine tgQ 7 (s := by exact sfQ) (h := ?_))); ((refine tgQ 8 (s := by exact slQ) (h := ?_))); ((refine tgQ 11 (s := by exact siQ) (h := ?_))))
  rw [hde]
  ((refine tkQ 12 (s := by exact Stab.pick_f rfl (by (with_reducible rfl)) rfl) (h := ?_)); (refine tkQ 13 (s := by exact Stab.move rfl) (h := ?_)); ((refine tgQ 14 (s := by exact swQ) (h := ?_))); (refine TrA.eff 15 rfl (by kernel_rfl) (by exact .inr ⟨_, _, _, rfl, rfl, rfl⟩) ?_))
  refine Exec.call0 rfl hck rfl ?_
  rintro _ _ _ ⟨rfl, rfl⟩
  refine ⟨Mem.le.refl _, (by exact fun _ h => h), ?_⟩
  (((refine tgQ 16 (s := by exact siQ) (h := ?_))))
  rw [hd0]
  ((refine tkQ 17 (s := by exact Stab.pick_f rfl (by (with_reducible rfl)) rfl) (h := ?_)); (refine tkQ 18 (s := by exact Stab.move rfl) (h := ?_)); ((refine tgQ 19 (s := by exact swQ) (h := ?_))); ((refine tgQ 22 (s := by exact Stab.move rfl) (h := ?_))); ((refine tgQ 23 (s := by exact Stab.bstrB rfl (tysOk.get rfl) (tysOk.get rfl) rfl rfl (tysOk.get rfl) rfl (by assumption)) (h := ?_))); (refine TrA.eff 20 rfl (by kernel_rfl) (by exact .inr ⟨_, _, _, rfl, rfl, rfl⟩) ?_))
  refine Exec.call0 rfl hre rfl ?_
  rintro _ M2 hm2 ⟨B, k, rfl, hb2⟩
  refine ⟨hm2, (by exact fun _ h => h), ?_⟩
  have hm02 := hm1.trans hm2
  (((refine tgQ 21 (s := by exact Stab.bstrB rfl (tysOk.get rfl) (tysOk.get rfl) rfl rfl (tysOk.get rfl) rfl (by assumption)) (h := ?_))); ((refine tgQ 24 (s := by exact Stab.strne rfl rfl) (h := ?_))); (refine tkQ 25 (s := by exact Stab.pick_f rfl (by (with_reducible rfl)) rfl) (h := ?_)); (refine TrA.done (by kernel_rfl) ?_))
  (repeat (first | ((with_reducible refine Tr.step rfl ?_); (first | (refine xaQ (z := ?_)) | (refine xwQ (z := ?_)) | (refine xWQ (z := ?_)))) | (with_reducible first | apply Tr.next | apply Tr.seq | apply Tr.region | apply Tr.nil | apply Tr.skip | apply Tr.ret) | (refine Tr.cond_f rfl (by (with_reducible exact (not_not_intro rfl))) ?_)))
  (refine Tr.done (by first | exact .inl rfl | exact .inr rfl) rfl (by repeat (first | exact RVs.nil | (apply RVs.cons; (first | exact RV.tmp rfl | exact RV.cellW (by rfl) (tysOk.get (by rfl)) (by rfl) (by repeat (first | exact Has.here | apply Has.there)) (by first | rfl | assumption))))) (by first | exact Mem.le.refl _ | assumption) (by exact ⟨[_, _, _], rfl⟩) ⟨rfl, ?_⟩)
  exact ⟨_, rfl, hRV'.mono hm2⟩
end Go.Proofs.YtghjhdbmkilakaaGreatDoor

/-
  Frames: the reference's Unpack.
  Conditions: none.
-/
namespace Go.Proofs.YtghjhdbmkilakaaGreatDoor
open Go Bf
attribute [local irreducible] Tr Exec Stab HasTy Go.Addr.add IntKind.wrap
attribute [local irreducible] encFr packF unpackF refM
theorem rmsg_len {M : Mem} {cs : List Value} {m : Msg} (h : RMsg M cs m) : cs.length = 43 := by
  obtain ⟨⟨h0, h1, h2, h3, h4, h5, h6, A, c, B, d, C, e, pe, rfl, p1, p2, p3⟩, pw, -⟩ := h
  have psl2 : (byteV m.sl).length = 32 := by simpa using pw.1
  simp only [List.length_cons, psl2]
theorem rmsg_one {M : Mem} {cs : List Value} {m : Msg} (h : RMsg M cs m) : AllOne cs := by
  obtain ⟨⟨h0, h1, h2, h3, h4, h5, h6, A, c, B, d, C, e, pe, rfl, p1, p2, p3⟩, pw, -⟩ := h
  exact .cons rfl (.cons rfl (.cons rfl (.cons rfl (.cons rfl (.cons rfl (.cons rfl (.cons rfl (.cons rfl (.cons rfl (.cons rfl (.bytes _)))))))))))
theorem zMsg_len' : (zMsg : List Value).length = 43 := by simp only [zMsg, List.length_cons, zSl]
set_option maxHeartbeats 8000000 in
theorem runpack_fn (M : Mem) (A : Option Addr) (c : Nat) (bs : List UInt8) (hb : BSl M (.slice A bs.length c) bs) (hl : bs.length ≤ 1000000) :
    Fn0 Tryz.prog 9 [.slice A bs.length c] M (fun r M' => RMsgE M' r (unpackF TF bs)) := by
  have hz := zMsg_len'
  rw [ref_unpack TF_len bs]
  refine Fn.intro Tryz.func9 rfl rfl Tryz.ntmps9 rfl fun E F => ?_
  (repeat (first | ((with_reducible refine Tr.step rfl ?_); (first | (refine xmQ (z := ?_)) | (refine xaQ (z := ?_)) | ((with_reducible refine Knd.alloc ?_); (refine Exec.alloc (tysOk.get rfl) rfl rfl (fun b => ?_))))) | (with_reducible first | apply Tr.next | apply Tr.seq | apply Tr.region | apply Tr.nil)))
  generalize b = b2
  refine Tr.cells (b := b2) (cs' := zMsg) (by repeat (first | exact Upd.here | apply Upd.there)) rfl ?_
  ((refine Tr.step rfl ?_)); refine Exec.call0 rfl (rfirst_fn M A c bs hb) rfl ?_
  rintro r M1 hm1 hR
  replace hb := hb.mono hm1
  cases hf : firstF TF bs with
  | none =>
    rw [hf] at hR
    obtain rfl := hR
    (repeat (first | ((with_reducible refine Tr.step rfl ?_); (first | (refine xmQ (z := ?_)) | (refine xaQ (z := ?_)) | (refine xiQ (z := ?_)) | ((with_reducible refine Knd.pick ?_); (refine Exec.stab rfl (Stab.pick_td rfl (by first | (with_reducible assumption) | (with_reducible rfl) | (with_reducible exact (not_not_intro rfl)) | omega) rfl) rfl ?_)) | ((with_reducible refine Knd.store ?_); (refine Exec.storeW rfl rfl (tysOk.get rfl) (by repeat (first | exact Upd.here | apply Upd.there)) rfl rfl (by repeat (first | (with_reducible assumption) | exact AllOne.nil | exact AllOne.bytes _ | refine AllOne.cons (by first | rfl | assumption) ?_)) ?_)) | ((with_reducible refine Knd.alloc ?_); (refine Exec.alloc (tysOk.get rfl) rfl rfl (fun b => ?_))) | ((with_reducible refine Knd.extract ?_); (refine Exec.stab rfl (Stab.extract rfl rfl) rfl ?_)) | ((with_reducible refine Knd.build ?_); (refine Exec.stab rfl (Stab.build tysOk rfl rfl rfl rfl (by repeat (first | exact BuildP.nil | ((apply BuildP.one); (rfl); (rfl); (first | rfl | assumption); (repeat (first | exact SetL.z | apply SetL.s))) | ((apply BuildP.many); (rfl); (rfl); (rfl); (rfl); (repeat (first | exact PutL.nil | ((apply PutL.cons); (repeat (first | exact SetL.z | apply SetL.s))))))))) rfl ?_)))) | (with_reducible first | apply Tr.next | apply Tr.seq | apply Tr.region | apply Tr.nil) | (refine Tr.guard_n' rfl rfl rfl (by first | (with_reducible assumption) | (with_reducible rfl) | (with_reducible exact (not_not_intro rfl)) | omega) rfl rfl ?_) | (with_reducible first | apply Tr.ret | apply Tr.then_ret) | (refine Tr.cond_bt rfl (by first | (with_reducible rfl) | (with_reducible assumption) | (with_reducible exact Bool.not_true) | (with_reducible exact Bool.not_false)) ?_)))
    refine Tr.cells (b := b2) (cs' := zMsg) (by repeat (first | exact Upd.here | apply Upd.there)) rfl ?_
    (skip)
    (refine Tr.done (by first | exact .inl rfl | exact .inr rfl) rfl (by repeat (first | exact RVs.nil | (apply RVs.cons; (first | exact RV.tmp rfl | exact RV.cellW (by rfl) (tysOk.get (by rfl)) (by rfl) (by repeat (first | exact Has.here | apply Has.there)) (by first | rfl | assumption))))) (by first | exact Mem.le.refl _ | assumption) (by exact ⟨[_, _], rfl⟩) ⟨rfl, ?_⟩)
    rfl
  | some x =>
    obtain ⟨f, n⟩ := x
    rw [hf] at hR
    obtain ⟨A2, c2, rfl, hB2⟩ := hR
    obtain ⟨ho, hn1, -, -⟩ := first_some hf
    have hbl : f.body.length ≤ 65536 := ho.2
    dsimp only
    by_cases hn : n = bs.length
    rotate_left
    · rw [if_neg (fun h => hn h.1)]
      have hnl : n ≤ bs.length := (first_some hf).2.2.1
      (repeat (first | ((with_reducible refine Tr.step rfl ?_); (first | (refine xmQ (z := ?_)) | (refine xaQ (z := ?_)) | (refine xiQ (z := ?_)) | ((with_reducible refine Knd.pick ?_); (refine Exec.stab rfl (Stab.pick_fd rfl (by first | (with_reducible assumption) | (with_reducible rfl) | (with_reducible exact (not_not_intro rfl)) | omega) rfl) rfl ?_)) | ((with_reducible refine Knd.store ?_); (refine Exec.storeW rfl rfl (tysOk.get rfl) (by repeat (first | exact Upd.here | apply Upd.there)) rfl rfl (by repeat (first | (with_reducible assumption) | exact AllOne.nil | exact AllOne.bytes _ | refine AllOne.cons (by first | rfl | assumption) ?_)) ?_)) | ((with_reducible refine Knd.alloc ?_); (refine Exec.alloc (tysOk.get rfl) rfl rfl (fun b => ?_))) | ((with_reducible refine Knd.extract ?_); (refine Exec.stab rfl (Stab.extract rfl rfl) rfl ?_)) | ((with_reducible refine Knd.build ?_); (refine Exec.stab rfl (Stab.build tysOk rfl rfl rfl rfl (by repeat (first | exact BuildP.nil | ((apply BuildP.one); (rfl); (rfl); (first | rfl | assumption); (repeat (first | exact SetL.z | apply SetL.s))) | ((apply BuildP.many); (rfl); (rfl); (rfl); (rfl); (repeat (first | exact PutL.nil | ((apply PutL.cons); (repeat (first | exact SetL.z | apply SetL.s))))))))) rfl ?_)))) | (with_reducible first | apply Tr.next | apply Tr.seq | apply Tr.region | apply Tr.nil) | ((refine Tr.guard_y' rfl rfl rfl (by first | (with_reducible assumption) | (with_reducible rfl) | (with_reducible exact (not_not_intro rfl)) | omega) ?_); (first | (refine xmQ (z := ?_)) | (refine xnQ (z := ?_)) | (refine xiQ (z := ?_)))) | (with_reducible first | apply Tr.ret | apply Tr.then_ret) | (refine Tr.cond_t rfl (by first | (with_reducible assumption) | (with_reducible rfl) | (with_reducible exact (not_not_intro rfl)) | omega) ?_)))
      refine Tr.cells (b := b2) (cs' := zMsg) (by repeat (first | exact Upd.here | apply Upd.there)) rfl ?_
      (refine Tr.done (by first | exact .inl rfl | exact .inr rfl) rfl (by repeat (first | exact RVs.nil | (apply RVs.cons; (first | exact RV.tmp rfl | exact RV.cellW (by rfl) (tysOk.get (by rfl)) (by rfl) (by repeat (first | exact Has.here | apply Has.there)) (by first | rfl | assumption))))) (by first | exact Mem.le.refl _ | assumption) (by exact ⟨[_, _], rfl⟩) ⟨rfl, ?_⟩)
      rfl
    have hsm := small_dec (bs := f.body) (n := 1000000) (by omega)
    (repeat (first | ((with_reducible refine Tr.step rfl ?_); (first | (refine xmQ (z := ?_)) | (refine xaQ (z := ?_)) | (refine xlQ (z := ?_)) | (refine xfQ (z := ?_)) | (refine xiQ (z := ?_)) | ((with_reducible refine Knd.pick ?_); (refine Exec.stab rfl (Stab.pick_fd rfl (by first | (with_reducible assumption) | (with_reducible rfl) | (with_reducible exact (not_not_intro rfl)) | omega) rfl) rfl ?_)) | ((with_reducible refine Knd.store ?_); (refine Exec.storeW rfl rfl (tysOk.get rfl) (by repeat (first | exact Upd.here | apply Upd.there)) rfl rfl (by repeat (first | (with_reducible assumption) | exact AllOne.nil | exact AllOne.bytes _ | refine AllOne.cons (by first | rfl | assumption) ?_)) ?_)) | ((with_reducible refine Knd.alloc ?_); (refine Exec.alloc (tysOk.get rfl) rfl rfl (fun b => ?_))) | ((with_reducible refine Knd.extract ?_); (refine Exec.stab rfl (Stab.extract rfl rfl) rfl ?_)))) | (with_reducible first | apply Tr.next | apply Tr.seq | apply Tr.region | apply Tr.nil) | ((refine Tr.guard_y' rfl rfl rfl (by first | (with_reducible assumption) | (with_reducible rfl) | (with_reducible exact (not_not_intro rfl)) | omega) ?_); (first | (refine xmQ (z := ?_)) | (refine xnQ (z := ?_)) | (refine xiQ (z := ?_)))) | (with_reducible refine Tr.skip ?_) | (refine Tr.cond_f rfl (by first | (with_reducible assumption) | (with_reducible rfl) | (with_reducible exact (not_not_intro rfl)) | omega) ?_)))
    ((refine Tr.step rfl ?_)); refine Exec.call0 rfl (rdecode_fn M1 A2 c2 f.body hB2 (by omega)) rfl ?_
    rintro _ M2 hm2 ⟨vv, rfl, hV⟩
    obtain ⟨B3, k3, rfl, hRu⟩ := hV.news
    replace hb := hb.mono hm2
    generalize (decF f.body).1 = v at *
    generalize (decF f.body).2 = de at *
    dsimp only [cV] at hRu ⊢
    (repeat (first | ((with_reducible refine Tr.step rfl ?_); (first | (refine xmQ (z := ?_)) | (refine xaQ (z := ?_)) | ((with_reducible refine Knd.load ?_); (first | (refine xlQ (z := ?_)) | (refine xwQ (z := ?_)))) | (refine xfQ (z := ?_)) | ((with_reducible refine Knd.store ?_); (refine Exec.storeW rfl rfl (tysOk.get rfl) (by repeat (first | exact Upd.here | apply Upd.there)) rfl rfl (by repeat (first | (with_reducible assumption) | exact AllOne.nil | exact AllOne.bytes _ | refine AllOne.cons (by first | rfl | assumption) ?_)) ?_)) | ((with_reducible refine Knd.alloc ?_); (refine Exec.alloc (tysOk.get rfl) rfl rfl (fun b => ?_))) | ((with_reducible refine Knd.extract ?_); (refine Exec.stab rfl (Stab.extract rfl rfl) rfl ?_)))) | (with_reducible first | apply Tr.next | apply Tr.seq | apply Tr.region | apply Tr.nil)))
    ((refine Tr.step rfl ?_)); refine Exec.call0 rfl (rmessage_fn M2 f.kind (okF_i64 ho) v _ ⟨_, rfl, hRu⟩ hsm) rfl ?_
    rintro _ M3 hm3 ⟨u, rfl, hM⟩
    replace hb := hb.mono hm3
    have hul := rmsg_len hM
    have huo := rmsg_one hM
    (repeat (first | ((with_reducible refine Tr.step rfl ?_); (first | ((with_reducible refine Knd.load ?_); (refine Exec.stab rfl (Stab.loadW rfl (tysOk.get rfl) rfl (by repeat (first | exact Has.here | apply Has.there)) (by assumption)) rfl ?_)) | ((with_reducible refine Knd.store ?_); (refine Exec.storeW rfl rfl (tysOk.get rfl) (by repeat (first | exact Upd.here | apply Upd.there)) (by first | rfl | assumption) (by first | rfl | assumption) (by first | exact AllOne.bytes _ | exact AllOne.words _ | exact (by repeat (first | (with_reducible assumption) | exact AllOne.nil | exact AllOne.bytes _ | refine AllOne.cons (by first | rfl | assumption) ?_))) ?_)) | ((with_reducible refine Knd.alloc ?_); (refine Exec.alloc (tysOk.get rfl) rfl rfl (fun b => ?_))))) | (with_reducible first | apply Tr.next | apply Tr.seq | apply Tr.region | apply Tr.nil)))
    ((refine Tr.step rfl ?_)); refine Exec.call0 rfl (rpack_fn M3 (refM f.kind v) u hM) rfl ?_
    rintro _ M4 hm4 ⟨A5, k5, rfl, hx⟩
    replace hb := hb.mono hm4
    have hmm : M.le M4 := hm1.trans (hm2.trans (hm3.trans hm4))
    by_cases hp : packF TF (refM f.kind v) = (bs, 0)
    · rw [if_pos ⟨hn, hp⟩]
      rw [hp] at hx ⊢
      dsimp only at hx ⊢
      (repeat (first | ((with_reducible refine Tr.step rfl ?_); (first | (refine xmQ (z := ?_)) | (refine xaQ (z := ?_)) | ((with_reducible refine Knd.load ?_); (refine Exec.stab rfl (Stab.loadW rfl (tysOk.get rfl) rfl (by repeat (first | exact Has.here | apply Has.there)) (by assumption)) rfl ?_)) | (refine xiQ (z := ?_)) | ((with_reducible refine Knd.pick ?_); (refine Exec.stab rfl (Stab.pick_fd rfl (by first | (with_reducible assumption) | (with_reducible rfl) | (with_reducible exact (not_not_intro rfl)) | omega) rfl) rfl ?_)) | ((with_reducible refine Knd.store ?_); (refine Exec.storeW rfl rfl (tysOk.get rfl) (by repeat (first | exact Upd.here | apply Upd.there)) (by first | rfl | assumption) (by first | rfl | assumption) (by first | exact AllOne.bytes _ | exact AllOne.words _ | exact (by repeat (first | (with_reducible assumption) | exact AllOne.nil | exact AllOne.bytes _ | refine AllOne.cons (by first | rfl | assumption) ?_))) ?_)) | ((with_reducible refine Knd.extract ?_); (refine Exec.stab rfl (Stab.extract rfl rfl) rfl ?_)))) | (with_reducible first | apply Tr.next | apply Tr.seq | apply Tr.region | apply Tr.nil) | ((refine Tr.guard_y' rfl rfl rfl (by first | (with_reducible assumption) | (with_reducible rfl) | (with_reducible exact (not_not_intro rfl)) | omega) ?_); (first | (refine xmQ (z := ?_)) | ((with_reducible refine Knd.binOp ?_); (refine Exec.stab rfl (Stab.strne rfl rfl) rfl ?_)) | ((with_reducible refine Knd.convert ?_); (refine Exec.stab rfl (Stab.bstrB rfl (tysOk.get rfl) (tysOk.get rfl) rfl rfl (tysOk.get rfl) rfl (by assumption)) rfl ?_)))) | (with_reducible first | apply Tr.skip | apply Tr.ret) | (refine Tr.cond_f rfl (by first | (with_reducible assumption) | (with_reducible rfl) | (with_reducible exact (not_not_intro rfl)) | omega) ?_)))
      (refine Tr.done (by first | exact .inl rfl | exact .inr rfl) rfl (by repeat (first | exact RVs.nil | (apply RVs.cons; (first | exact RV.tmp rfl | exact RV.cellW (by rfl) (tysOk.get (by rfl)) (by rfl) (by repeat (first | exact Has.here | apply Has.there)) (by first | rfl | assumption))))) (by first | exact Mem.le.refl _ | assumption) (by exact ⟨[_, _, _, _], rfl⟩) ⟨rfl, ?_⟩)
      exact ⟨u, rfl, hM.mono hm4⟩
    rw [if_neg (fun h => hp h.2)]
    generalize packF TF (refM f.kind v) = pp at *
    obtain ⟨px, pe⟩ := pp
    dsimp only at hx ⊢
    by_cases hpe : pe = 0
    · have hpx : ¬ px = bs := fun h => hp (by rw [h, hpe])
      subst hpe
      (repeat (first | ((with_reducible refine Tr.step rfl ?_); (first | (refine xmQ (z := ?_)) | (refine xaQ (z := ?_)) | (refine xiQ (z := ?_)) | ((with_reducible refine Knd.pick ?_); (refine Exec.stab rfl (Stab.pick_fd rfl (by first | (with_reducible assumption) | (with_reducible rfl) | (with_reducible exact (not_not_intro rfl)) | omega) rfl) rfl ?_)) | ((with_reducible refine Knd.store ?_); (refine Exec.storeW rfl rfl (tysOk.get rfl) (by repeat (first | exact Upd.here | apply Upd.there)) rfl rfl (by repeat (first | (with_reducible assumption) | exact AllOne.nil | exact AllOne.bytes _ | refine AllOne.cons (by first | rfl | assumption) ?_)) ?_)) | ((with_reducible refine Knd.extract ?_); (refine Exec.stab rfl (Stab.extract rfl rfl) rfl ?_)) | ((with_reducible refine Knd.build ?_); (refine Exec.stab rfl (Stab.build tysOk rfl rfl rfl rfl (by repeat (first | exact BuildP.nil | ((apply BuildP.one); (rfl); (rfl); (first | rfl | assumption); (repeat (first | exact SetL.z | apply SetL.s))) | ((apply BuildP.many); (rfl); (rfl); (rfl); (rfl); (repeat (first | exact PutL.nil | ((apply PutL.cons); (repeat (first | exact SetL.z | apply SetL.s))))))))) rfl ?_)))) | (with_reducible first | apply Tr.next | apply Tr.seq | apply Tr.region | apply Tr.nil) | ((refine Tr.guard_y' rfl rfl rfl (by first | (with_reducible assumption) | (with_reducible rfl) | (with_reducible exact (not_not_intro rfl)) | omega) ?_); (first | (refine xmQ (z := ?_)) | ((with_reducible refine Knd.binOp ?_); (refine Exec.stab rfl (Stab.strne rfl rfl) rfl ?_)) | ((with_reducible refine Knd.convert ?_); (refine Exec.stab rfl (Stab.bstrB rfl (tysOk.get rfl) (tysOk.get rfl) rfl rfl (tysOk.get rfl) rfl (by assumption)) rfl ?_)))) | (with_reducible first | apply Tr.ret | apply Tr.then_ret) | (refine Tr.cond_t rfl (by first | (with_reducible assumption) | (with_reducible rfl) | (with_reducible exact (not_not_intro rfl)) | omega) ?_)))
      refine Tr.cells (b := b2) (cs' := zMsg) (by repeat (first | exact Upd.here | apply Upd.there)) rfl ?_
      (refine Tr.done (by first | exact .inl rfl | exact .inr rfl) rfl (by repeat (first | exact RVs.nil | (apply RVs.cons; (first | exact RV.tmp rfl | exact RV.cellW (by rfl) (tysOk.get (by rfl)) (by rfl) (by repeat (first | exact Has.here | apply Has.there)) (by first | rfl | assumption))))) (by first | exact Mem.le.refl _ | assumption) (by exact ⟨[_, _, _, _], rfl⟩) ⟨rfl, ?_⟩)
      rfl
    · (repeat (first | ((with_reducible refine Tr.step rfl ?_); (first | (refine xmQ (z := ?_)) | (refine xaQ (z := ?_)) | (refine xiQ (z := ?_)) | ((with_reducible refine Knd.pick ?_); (refine Exec.stab rfl (Stab.pick_td rfl (by first | (with_reducible assumption) | (with_reducible rfl) | (with_reducible exact (not_not_intro rfl)) | omega) rfl) rfl ?_)) | ((with_reducible refine Knd.store ?_); (refine Exec.storeW rfl rfl (tysOk.get rfl) (by repeat (first | exact Upd.here | apply Upd.there)) rfl rfl (by repeat (first | (with_reducible assumption) | exact AllOne.nil | exact AllOne.bytes _ | refine AllOne.cons (by first | rfl | assumption) ?_)) ?_)) | ((with_reducible refine Knd.extract ?_); (refine Exec.stab rfl (Stab.extract rfl rfl) rfl ?_)) | ((with_reducible refine Knd.build ?_); (refine Exec.stab rfl (Stab.build tysOk rfl rfl rfl rfl (by repeat (first | exact BuildP.nil | ((apply BuildP.one); (rfl); (rfl); (first | rfl | assumption); (repeat (first | exact SetL.z | apply SetL.s))) | ((apply BuildP.many); (rfl); (rfl); (rfl); (rfl); (repeat (first | exact PutL.nil | ((apply PutL.cons); (repeat (first | exact SetL.z | apply SetL.s))))))))) rfl ?_)))) | (with_reducible first | apply Tr.next | apply Tr.seq | apply Tr.region | apply Tr.nil) | (refine Tr.guard_n' rfl rfl rfl (by first | (with_reducible assumption) | (with_reducible rfl) | (with_reducible exact (not_not_intro rfl)) | omega) rfl rfl ?_) | (with_reducible first | apply Tr.ret | apply Tr.then_ret) | (refine Tr.cond_bt rfl (by first | (with_reducible rfl) | (with_reducible assumption) | (with_reducible exact Bool.not_true) | (with_reducible exact Bool.not_false)) ?_)))
      refine Tr.cells (b := b2) (cs' := zMsg) (by repeat (first | exact Upd.here | apply Upd.there)) rfl ?_
      (refine Tr.done (by first | exact .inl rfl | exact .inr rfl) rfl (by repeat (first | exact RVs.nil | (apply RVs.cons; (first | exact RV.tmp rfl | exact RV.cellW (by rfl) (tysOk.get (by rfl)) (by rfl) (by repeat (first | exact Has.here | apply Has.there)) (by first | rfl | assumption))))) (by first | exact Mem.le.refl _ | assumption) (by exact ⟨[_, _, _, _], rfl⟩) ⟨rfl, ?_⟩)
      rfl
end Go.Proofs.YtghjhdbmkilakaaGreatDoor

/-
  Frames: the law FramesPackSpec.
  Conditions: none.
-/
namespace Go.Proofs.YtghjhdbmkilakaaGreatDoor
open Go Bf
attribute [local irreducible] Tr Exec Stab HasTy Go.Addr.add IntKind.wrap
attribute [local irreducible] encFr packF unpackF
/-- what Unpack answers, whatever it is: a message and a number -/
theorem RMsgE.open_ {M : Mem} {r : Value} {o : Option Msg} (h : RMsgE M r o) : ∃ (cs : List Value) (g : Int), r = .tuple #[.agg cs.toArray, .int .i64 g] ∧ RMsg M cs (o.getD mZ) ∧ g = (if o.isSome then 0 else 470) := by
  cases o with
  | none => exact ⟨zMsg, 470, h, zMsg_R M, rfl⟩
  | some m =>
    obtain ⟨cs, rfl, hM⟩ := h
    exact ⟨cs, 0, rfl, hM, rfl⟩
set_option maxHeartbeats 16000000 in
theorem law3_fn (M : Mem) (hK : Tab M) (p q : Msg) (u v : List Value) (B : Option Addr) (k : Nat) (bs : List UInt8) (hp : RMsg M u p) (hq : RMsg M v q) (hb : BSl M (.slice B bs.length k) bs) :
    Fn0 Tryz.prog 3 [.agg u.toArray, .agg v.toArray, .slice B bs.length k] M (fun r _ => r = .bool true) := by
  have hbl := hb.len_le
  have hul := rmsg_len hp
  have hvl := rmsg_len hq
  refine Fn.intro Tryz.func3 rfl rfl Tryz.ntmps3 rfl fun E F => ?_
  (repeat (first | ((with_reducible refine Tr.step rfl ?_); (first | (refine xaQ (z := ?_)) | ((with_reducible refine Knd.box ?_); (refine Exec.box rfl rfl (fun b => ?_))))) | (with_reducible first | apply Tr.next | apply Tr.seq | apply Tr.region | apply Tr.nil)))
  generalize b = b4
  rename_i b3
  ((refine Tr.step rfl ?_)); refine Exec.call0 rfl (sane_fn M hK) rfl ?_
  rintro _ M1 hm1 rfl
  replace hb := hb.mono hm1
  replace hp := hp.mono hm1
  replace hq := hq.mono hm1
  replace hK := hK.mono hm1
  (repeat (first | ((with_reducible refine Tr.step rfl ?_); (first | ((with_reducible refine Knd.load ?_); (refine Exec.stab rfl (Stab.loadW rfl (tysOk.get rfl) rfl (by repeat (first | exact Has.here | apply Has.there)) (by assumption)) rfl ?_)) | ((with_reducible refine Knd.unOp ?_); (refine Exec.stab rfl (Stab.not rfl) rfl ?_)))) | (with_reducible first | apply Tr.next | apply Tr.seq | apply Tr.region | apply Tr.nil | apply Tr.skip) | (refine Tr.cond_bf rfl (by first | (with_reducible rfl) | (with_reducible exact Bool.not_true)) ?_)))
  ((refine Tr.step rfl ?_)); refine Exec.call0 rfl (few_fn M1 p u hp) rfl ?_
  rintro _ M2 hm2 ⟨⟨fa, rfl⟩, rfl⟩
  cases fa with
  | false =>
    (repeat (first | ((with_reducible refine Tr.step rfl ?_); (first | (refine xmQ (z := ?_)) | (refine xaQ (z := ?_)) | ((with_reducible refine Knd.pick ?_); (refine Exec.stab rfl (Stab.pick_t rfl (by first | (with_reducible rfl) | (with_reducible exact Bool.not_false)) rfl) rfl ?_)) | ((with_reducible refine Knd.unOp ?_); (refine Exec.stab rfl (Stab.not rfl) rfl ?_)))) | (with_reducible first | apply Tr.next | apply Tr.seq | apply Tr.region | apply Tr.nil) | (refine Tr.guard_s0 rfl rfl rfl (by first | (with_reducible rfl) | (with_reducible exact Bool.not_false)) rfl rfl ?_) | (with_reducible first | apply Tr.ret | apply Tr.then_ret) | (refine Tr.cond_bt rfl (by (with_reducible rfl)) ?_)))
    (refine dnQ (hL := by exact ⟨[_, _], rfl⟩) (k := ⟨rfl, ?_⟩))
    rfl
  | true =>
  (repeat (first | ((with_reducible refine Tr.step rfl ?_); (first | (refine xmQ (z := ?_)) | ((with_reducible refine Knd.unOp ?_); (refine Exec.stab rfl (Stab.not rfl) rfl ?_)))) | ((refine Tr.guard_l rfl rfl rfl (by (with_reducible exact Bool.not_true)) ?_); (with_reducible refine Knd.load ?_); (refine Exec.stab rfl (Stab.loadW rfl (tysOk.get rfl) rfl (by repeat (first | exact Has.here | apply Has.there)) (by assumption)) rfl ?_))))
  ((refine Tr.guard_l rfl rfl rfl (by (with_reducible exact Bool.not_true)) ?_)); refine Exec.call0 rfl (few_fn M1 q v hq) rfl ?_
  rintro _ M2 hm2 ⟨⟨fb, rfl⟩, rfl⟩
  cases fb with
  | false =>
    (repeat (first | ((with_reducible refine Tr.step rfl ?_); (first | (refine xmQ (z := ?_)) | (refine xaQ (z := ?_)) | ((with_reducible refine Knd.pick ?_); (first | (refine Exec.stab rfl (Stab.pick_t rfl (by (with_reducible exact Bool.not_false)) rfl) rfl ?_) | (refine Exec.stab rfl (Stab.pick_f rfl (by (with_reducible exact Bool.not_true)) rfl) rfl ?_))))) | (with_reducible first | apply Tr.next | apply Tr.seq | apply Tr.region | apply Tr.nil) | ((refine Tr.guard_l rfl rfl rfl (by first | (with_reducible rfl) | (with_reducible exact Bool.not_true)) ?_); (with_reducible refine Knd.unOp ?_); (refine Exec.stab rfl (Stab.not rfl) rfl ?_)) | (refine Tr.guard_s0 rfl rfl rfl (by first | (with_reducible rfl) | (with_reducible exact Bool.not_false)) rfl rfl ?_) | (with_reducible first | apply Tr.ret | apply Tr.then_ret) | (refine Tr.cond_bt rfl (by (with_reducible rfl)) ?_)))
    (refine dnQ (hL := by exact ⟨[_, _], rfl⟩) (k := ⟨rfl, ?_⟩))
    rfl
  | true =>
  by_cases h1 : bs.length ≤ 3000
  case neg =>
    (repeat (first | ((with_reducible refine Tr.step rfl ?_); (first | (refine xmQ (z := ?_)) | (refine xaQ (z := ?_)) | ((with_reducible refine Knd.pick ?_); (refine Exec.stab rfl (Stab.pick_f rfl (by (with_reducible exact Bool.not_true)) rfl) rfl ?_)))) | (with_reducible first | apply Tr.next | apply Tr.seq | apply Tr.region | apply Tr.nil) | ((refine Tr.guard_l rfl rfl rfl (by first | (with_reducible rfl) | (with_reducible exact Bool.not_true)) ?_); (first | (refine xmQ (z := ?_)) | (refine xnQ (z := ?_)) | (refine xiQ (z := ?_)) | ((with_reducible refine Knd.unOp ?_); (refine Exec.stab rfl (Stab.not rfl) rfl ?_)))) | (with_reducible first | apply Tr.ret | apply Tr.then_ret) | (refine Tr.cond_t rfl (by first | (with_reducible assumption) | omega) ?_)))
    (refine dnQ (hL := by exact ⟨[_, _], rfl⟩) (k := ⟨rfl, ?_⟩))
    rfl
  (repeat (first | ((with_reducible refine Tr.step rfl ?_); (first | (refine xmQ (z := ?_)) | ((with_reducible refine Knd.load ?_); (refine Exec.stab rfl (Stab.loadW rfl (tysOk.get rfl) rfl (by repeat (first | exact Has.here | apply Has.there)) (by assumption)) rfl ?_)) | ((with_reducible refine Knd.pick ?_); (refine Exec.stab rfl (Stab.pick_f rfl (by (with_reducible exact Bool.not_true)) rfl) rfl ?_)))) | (with_reducible first | apply Tr.next | apply Tr.seq | apply Tr.region | apply Tr.nil) | ((refine Tr.guard_l rfl rfl rfl (by first | (with_reducible rfl) | (with_reducible exact Bool.not_true)) ?_); (first | (refine xmQ (z := ?_)) | (refine xnQ (z := ?_)) | (refine xiQ (z := ?_)) | ((with_reducible refine Knd.unOp ?_); (refine Exec.stab rfl (Stab.not rfl) rfl ?_)))) | (with_reducible refine Tr.skip ?_) | (refine Tr.cond_f rfl (by omega) ?_)))
  ((refine Tr.step rfl ?_)); refine Exec.call0 rfl (pack_fn M1 hK q v hq) rfl ?_
  rintro _ M3 hm3 ⟨A3, c3, rfl, hx⟩
  replace hb := hb.mono hm3
  replace hp := hp.mono hm3
  replace hq := hq.mono hm3
  replace hK := hK.mono hm3
  (repeat (first | ((with_reducible refine Tr.step rfl ?_); (first | (refine xmQ (z := ?_)) | (refine xaQ (z := ?_)) | ((with_reducible refine Knd.load ?_); (refine Exec.stab rfl (Stab.loadW rfl (tysOk.get rfl) rfl (by repeat (first | exact Has.here | apply Has.there)) (by assumption)) rfl ?_)) | ((with_reducible refine Knd.extract ?_); (refine Exec.stab rfl (Stab.extract rfl rfl) rfl ?_)))) | (with_reducible first | apply Tr.next | apply Tr.seq | apply Tr.region | apply Tr.nil)))
  ((refine Tr.step rfl ?_)); refine Exec.call0 rfl (rpack_fn M3 q v hq) rfl ?_
  rintro _ M4 hm4 ⟨A4, c4, rfl, hy⟩
  replace hb := hb.mono hm4
  replace hp := hp.mono hm4
  replace hq := hq.mono hm4
  replace hx := hx.mono hm4
  replace hK := hK.mono hm4
  (repeat (first | ((with_reducible refine Tr.step rfl ?_); (first | (refine xmQ (z := ?_)) | (refine xaQ (z := ?_)) | ((with_reducible refine Knd.extract ?_); (refine Exec.stab rfl (Stab.extract rfl rfl) rfl ?_)))) | (with_reducible first | apply Tr.next | apply Tr.seq | apply Tr.region | apply Tr.nil)))
  ((refine Tr.step rfl ?_)); refine Exec.call0 rfl (unpack_fn M4 hK B k bs hb) rfl ?_
  rintro r M5 hm5 hR
  obtain ⟨cs1, g1, rfl, hM1, hg1⟩ := hR.open_
  replace hb := hb.mono hm5
  replace hp := hp.mono hm5
  replace hq := hq.mono hm5
  replace hx := hx.mono hm5
  replace hy := hy.mono hm5
  have hl1 := rmsg_len hM1
  have ho1 := rmsg_one hM1
  (repeat (first | ((with_reducible refine Tr.step rfl ?_); (first | (refine xmQ (z := ?_)) | (refine xaQ (z := ?_)) | ((with_reducible refine Knd.store ?_); (refine Exec.storeW rfl rfl (tysOk.get rfl) (by repeat (first | exact Upd.here | apply Upd.there)) (by first | rfl | assumption) (by first | rfl | assumption) (by exact (by repeat ((with_reducible assumption)))) ?_)) | ((with_reducible refine Knd.alloc ?_); (refine Exec.alloc (tysOk.get rfl) rfl rfl (fun b => ?_))) | ((with_reducible refine Knd.extract ?_); (refine Exec.stab rfl (Stab.extract rfl rfl) rfl ?_)))) | (with_reducible first | apply Tr.next | apply Tr.seq | apply Tr.region | apply Tr.nil)))
  ((refine Tr.step rfl ?_)); refine Exec.call0 rfl (runpack_fn M5 B k bs hb (by omega)) rfl ?_
  rintro r M6 hm6 hR2
  obtain ⟨cs2, g2, rfl, hM2, hg2⟩ := hR2.open_
  replace hp := hp.mono hm6
  replace hq := hq.mono hm6
  replace hx := hx.mono hm6
  replace hy := hy.mono hm6
  replace hM1 := hM1.mono hm6
  have hl2 := rmsg_len hM2
  have ho2 := rmsg_one hM2
  have hgg : g1 = g2 := by rw [hg1, hg2]
  clear hR hR2 hg1 hg2
  generalize (unpackF TF bs).getD mZ = w at *
  generalize packF TF q = pq at *
  obtain ⟨px, pe⟩ := pq
  dsimp only at *
  subst hgg
  have hmm : M.le M6 := hm1.trans (hm3.trans (hm4.trans (hm5.trans hm6)))
  (repeat (first | ((with_reducible refine Tr.step rfl ?_); (first | (refine xmQ (z := ?_)) | (refine xaQ (z := ?_)) | ((with_reducible refine Knd.store ?_); (refine Exec.storeW rfl rfl (tysOk.get rfl) (by repeat (first | exact Upd.here | apply Upd.there)) (by first | rfl | assumption) (by first | rfl | assumption) (by exact (by repeat ((with_reducible assumption)))) ?_)) | ((with_reducible refine Knd.alloc ?_); (refine Exec.alloc (tysOk.get rfl) rfl rfl (fun b => ?_))) | ((with_reducible refine Knd.extract ?_); (refine Exec.stab rfl (Stab.extract rfl rfl) rfl ?_)))) | (with_reducible first | apply Tr.next | apply Tr.seq | apply Tr.nil)))
  (((apply Tr.draw); (kernel_rfl)); (refine tkQ 0 (hB := by exact fun _ h => h) (s := by exact Stab.move rfl) (h := ?_)); (refine tkQ 2 (s := by exact Stab.move rfl) (h := ?_)); (refine tkQ 1 (s := by exact Stab.bstrB rfl (tysOk.get rfl) (tysOk.get rfl) rfl rfl (tysOk.get rfl) rfl (by assumption)) (h := ?_)); (refine tkQ 3 (s := by exact Stab.bstrB rfl (tysOk.get rfl) (tysOk.get rfl) rfl rfl (tysOk.get rfl) rfl (by assumption)) (h := ?_)); (refine tkQ 4 (s := by exact Stab.streq rfl rfl) (h := ?_)))
  rw [decide_eq_true rfl]
  ((refine tkQ 5 (s := by exact Stab.move rfl) (h := ?_)); ((refine tgQ 6 (s := by exact Stab.move rfl) (h := ?_))); ((refine tgQ 7 (s := by exact Stab.move rfl) (h := ?_))); ((refine tgQ 8 (s := by exact siQ) (h := ?_))))
  rw [decide_eq_true (rfl : pe = pe)]
  ((refine tkQ 9 (s := by exact Stab.pick_t rfl (by (with_reducible rfl)) rfl) (h := ?_)); (refine tkQ 10 (s := by exact Stab.move rfl) (h := ?_)); ((refine tgQ 11 (s := by exact Stab.loadW rfl (tysOk.get rfl) rfl (by repeat (first | exact Has.here | apply Has.there)) (by assumption)) (h := ?_))); ((refine tgQ 12 (s := by exact Stab.loadW rfl (tysOk.get rfl) rfl (by repeat (first | exact Has.here | apply Has.there)) (by assumption)) (h := ?_))); (refine TrA.eff 13 rfl (by kernel_rfl) (by exact .inr ⟨_, _, _, rfl, rfl, rfl⟩) ?_))
  refine Exec.call0 rfl (rsame_fn M6 w w cs1 cs2 hM1 hM2) rfl ?_
  rintro _ _ _ ⟨rfl, rfl⟩
  refine ⟨Mem.le.refl _, (by exact fun _ h => h), ?_⟩
  rw [decide_eq_true (rfl : w = w)]
  ((refine tkQ 14 (s := by exact Stab.pick_t rfl (by (with_reducible rfl)) rfl) (h := ?_)); (refine tkQ 15 (s := by exact Stab.move rfl) (h := ?_)); ((refine tgQ 16 (s := by exact Stab.move rfl) (h := ?_))); ((refine tgQ 17 (s := by exact Stab.move rfl) (h := ?_))); ((refine tgQ 18 (s := by exact siQ) (h := ?_))))
  rw [decide_eq_true (rfl : g1 = g1)]
  ((refine tkQ 19 (s := by exact Stab.pick_t rfl (by (with_reducible rfl)) rfl) (h := ?_)); (refine tkQ 20 (s := by exact Stab.move rfl) (h := ?_)); ((refine tgQ 21 (s := by exact Stab.loadW rfl (tysOk.get rfl) rfl (by repeat (first | exact Has.here | apply Has.there)) (by assumption)) (h := ?_))); ((refine tgQ 22 (s := by exact Stab.loadW rfl (tysOk.get rfl) rfl (by repeat (first | exact Has.here | apply Has.there)) (by assumption)) (h := ?_))); ((refine tgQ 24 (s := by exact Stab.loadW rfl (tysOk.get rfl) rfl (by repeat (first | exact Has.here | apply Has.there)) (by assumption)) (h := ?_))); ((refine tgQ 25 (s := by exact Stab.loadW rfl (tysOk.get rfl) rfl (by repeat (first | exact Has.here | apply Has.there)) (by assumption)) (h := ?_))); (refine TrA.eff 23 rfl (by kernel_rfl) (by exact .inr ⟨_, _, _, rfl, rfl, rfl⟩) ?_))
  refine Exec.call0 rfl (fsame_fn M6 p q u v hp hq) rfl ?_
  rintro _ _ _ ⟨rfl, rfl⟩
  refine ⟨Mem.le.refl _, (by exact fun _ h => h), ?_⟩
  ((refine TrA.eff 26 rfl (by kernel_rfl) (by exact .inr ⟨_, _, _, rfl, rfl, rfl⟩) ?_))
  refine Exec.call0 rfl (rsame_fn M6 p q u v hp hq) rfl ?_
  rintro _ _ _ ⟨rfl, rfl⟩
  refine ⟨Mem.le.refl _, (by exact fun _ h => h), ?_⟩
  generalize decide (p = q) = dpq
  (((refine tgQ 27 (s := by exact Stab.booleq rfl rfl (tysOk.get rfl) rfl) (h := ?_))))
  rw [decide_eq_true (rfl : dpq = dpq)]
  ((refine tkQ 28 (s := by exact Stab.pick_t rfl (by (with_reducible rfl)) rfl) (h := ?_)); (refine tkQ 29 (s := by exact Stab.move rfl) (h := ?_)); ((refine tgQ 30 (s := by exact Stab.loadW rfl (tysOk.get rfl) rfl (by repeat (first | exact Has.here | apply Has.there)) (by assumption)) (h := ?_))); ((refine tgQ 31 (s := by exact Stab.loadW rfl (tysOk.get rfl) rfl (by repeat (first | exact Has.here | apply Has.there)) (by assumption)) (h := ?_))); (refine TrA.eff 32 rfl (by kernel_rfl) (by exact .inr ⟨_, _, _, rfl, rfl, rfl⟩) ?_))
  refine Exec.call0 rfl (fsame_fn M6 q q v v hq hq) rfl ?_
  rintro _ _ _ ⟨rfl, rfl⟩
  refine ⟨Mem.le.refl _, (by exact fun _ h => h), ?_⟩
  rw [decide_eq_true (rfl : q = q)]
  ((refine tkQ 33 (s := by exact Stab.pick_t rfl (by (with_reducible rfl)) rfl) (h := ?_)); (refine tkQ 34 (s := by exact Stab.assign rfl) (h := ?_)); (refine TrA.done (by kernel_rfl) ?_))
  (repeat (first | (with_reducible first | apply Tr.next | apply Tr.ret)))
  (refine dnQ (hL := by exact ⟨[_, _, _, _], rfl⟩) (k := ⟨rfl, ?_⟩))
  rfl
end Go.Proofs.YtghjhdbmkilakaaGreatDoor

/-
  Frames: how the arguments of the laws read, and the table of constants.
  Conditions: none.
-/
namespace Go.Proofs.YtghjhdbmkilakaaGreatDoor
open Go Bf
open Go.ChangeShapes Go.WideShapes Go.ChangeAt Go.RowKit
set_option maxRecDepth 100000
section
variable {H : Type} {enc : TypeId × Value → H} {W : World} {base : Nat} {v : Value} {w : World} {sp : Nat → Bool} {held : Bool}
theorem int_bounds {n : Int} (hw : (Lit.int .i64 n).wf = true) : -9223372036854775808 ≤ n ∧ n ≤ 9223372036854775807 := by
  have hmin : IntKind.i64.min = -9223372036854775808 := by decide
  have hmax : IntKind.i64.max = 9223372036854775807 := by decide
  simpa [Lit.wf, hmin, hmax] using hw
theorem u3 : Tryz.prog.underlying 3 = some (.int .i64) := (tysOk.get (t := 3) rfl).1
theorem u5 : Tryz.prog.underlying 5 = some (.int .u8) := (tysOk.get (t := 5) rfl).1
theorem u22 : Tryz.prog.underlying 28 = some (.slice 5) := (tysOk.get (t := 28) rfl).1
theorem u38 : Tryz.prog.underlying 22 = some (.slice 3) := (tysOk.get (t := 22) rfl).1
theorem u44 : Tryz.prog.underlying 23 = some (.slice 49) := (tysOk.get (t := 23) rfl).1
theorem u46 : Tryz.prog.underlying 25 = some (.array 32 5) := (tysOk.get (t := 25) rfl).1
theorem u56 : Tryz.prog.underlying 47 = some (.slice 22) := (tysOk.get (t := 47) rfl).1
theorem u116 : Tryz.prog.underlying 116 = some (.int .u32) := (tysOk.get (t := 116) rfl).1
theorem u137 : Tryz.prog.underlying 139 = some (.array 64 116) := (tysOk.get (t := 139) rfl).1
theorem c3 : Tryz.prog.cellsOf 3 = 1 := by kernel_rfl
theorem c5 : Tryz.prog.cellsOf 5 = 1 := by kernel_rfl
theorem c38 : Tryz.prog.cellsOf 22 = 1 := by kernel_rfl
theorem c44 : Tryz.prog.cellsOf 23 = 1 := by kernel_rfl
theorem c46 : Tryz.prog.cellsOf 25 = 32 := by kernel_rfl
theorem c48 : Tryz.prog.cellsOf 27 = 43 := by kernel_rfl
theorem c56 : Tryz.prog.cellsOf 47 = 1 := by kernel_rfl
theorem c58 : Tryz.prog.cellsOf 49 = 2 := by kernel_rfl
theorem c116 : Tryz.prog.cellsOf 116 = 1 := by kernel_rfl
abbrev I64 (x : Int) : Prop := -9223372036854775808 ≤ x ∧ x ≤ 9223372036854775807
/-- what is read says more than its form -/
theorem slOf_split {α : Type} {sz : Nat} {R R' : Mem → List Value → α → Prop} {Q : α → Prop} {M : Mem} {v : Value} {xs : List α} (h : SlOf sz R M v xs) (hR : ∀ c x, R M c x → R' M c x ∧ Q x) : SlOf sz R' M v xs ∧ ∀ x ∈ xs, Q x := by
  obtain ⟨A, c, cells, h1, h2, h3, h4, h5, h6⟩ := h
  refine ⟨⟨A, c, cells, h1, h2, h3, h4, h5, fun i x hx => (hR _ _ (h6 i x hx)).1⟩, fun x hx => ?_⟩
  obtain ⟨i, hi⟩ := List.getElem?_of_mem hx
  exact (hR _ _ (h6 i x hi)).2
theorem arg_bytes (h : Arg enc Tryz.prog W base 28 v) : ∃ (bs : List UInt8) (A : Option Addr) (c : Nat), v = .slice A bs.length c ∧ BSl (Bf.hp W) (.slice A bs.length c) bs := by
  obtain ⟨k0, f0, x, g0⟩ := h
  obtain ⟨A, len, cap, rfl⟩ := okWide_slice u22 k0
  exact read_bytes u22 u5 c5 g0
theorem len2' {l : List Value} (h : l.length = 2) : ∃ a b, l = [a, b] := by
  match l, h with
  | [a, b], _ => exact ⟨a, b, rfl⟩
/-- a slice of whole numbers -/
theorem read_ints {fuel : Nat} {v : Value} {x : DataW H × List MemPlace} (h : DataW.trod enc Tryz.prog w 0 sp held fuel 22 [v] = some x) : ∃ (l : List Int) (A : Option Addr) (c : Nat), v = .slice A l.length c ∧ Ints (Bf.hp w) (.slice A l.length c) l ∧ ∀ y ∈ l, I64 y := by
  obtain ⟨l, A, c, rfl, hs⟩ := read_slOf (R := fun M c x => RI M c x ∧ I64 x) u38 c3 (by omega) (fun f cs y hl hy => by
    obtain ⟨n, rfl, hn⟩ := read_int u3 hy
    exact ⟨by intro u hu; simp at hu; subst hu; rfl, n, rfl, int_bounds hn⟩) h
  obtain ⟨h1, h2⟩ := slOf_split hs (R' := RI) (Q := I64) fun c x hx => hx
  exact ⟨l, A, c, rfl, h1, h2⟩
theorem read_rows {fuel : Nat} {v : Value} {x : DataW H × List MemPlace} (h : DataW.trod enc Tryz.prog w 0 sp held fuel 47 [v] = some x) : ∃ (l : List (List Int)) (A : Option Addr) (c : Nat), v = .slice A l.length c ∧ SlOf 1 RRowI (Bf.hp w) (.slice A l.length c) l ∧ ∀ y ∈ l, ∀ z ∈ y, I64 z := by
  obtain ⟨l, A, c, rfl, hs⟩ := read_slOf (R := fun M c x => RRowI M c x ∧ ∀ z ∈ x, I64 z) u56 c38 (by omega) (fun f cs y hl hy => by
    obtain ⟨a, rfl⟩ := List.length_eq_one_iff.1 hl
    obtain ⟨l, A, c, rfl, h1, h2⟩ := read_ints hy
    exact ⟨by intro u hu; simp at hu; subst hu; rfl, l, ⟨A, c, rfl, h1⟩, h2⟩) h
  obtain ⟨h1, h2⟩ := slOf_split hs (R' := RRowI) (Q := fun y => ∀ z ∈ y, I64 z) fun c x hx => hx
  exact ⟨l, A, c, rfl, h1, h2⟩
def RelI (r : Rel) : Prop := (∀ y ∈ r.out, I64 y) ∧ ∀ y ∈ r.inn, ∀ z ∈ y, I64 z
theorem RelI.ok {r : Rel} (h : RelI r) : Ok64 (relV r) := ok_lV fun x hx => by
  rcases List.mem_cons.1 hx with rfl | hx
  · exact s_nums h.1
  · rw [List.mem_singleton.1 hx]
    exact ok_lV fun y hy => by obtain ⟨z, hz, rfl⟩ := List.mem_map.1 hy; exact s_nums (h.2 z hz)
theorem read_rels {fuel : Nat} {v : Value} {x : DataW H × List MemPlace} (h : DataW.trod enc Tryz.prog w 0 sp held fuel 23 [v] = some x) : ∃ (l : List Rel) (A : Option Addr) (c : Nat), v = .slice A l.length c ∧ RRels (Bf.hp w) (.slice A l.length c) l ∧ ∀ y ∈ l, RelI y := by
  obtain ⟨l, A, c, rfl, hs⟩ := read_slOf (R := fun M c x => RRel M c x ∧ RelI x) u44 c58 (by omega) (fun f cs y hl hy => by
    obtain ⟨-, g, hg⟩ := read_struct Tryz.underlying49 hy
    obtain ⟨a, b, rfl⟩ := len2' hl
    obtain ⟨y0, h0⟩ : ∃ y, DataW.trod enc Tryz.prog w 0 sp held g 22 (([a, b].drop 0).take (Tryz.prog.cellsOf 22)) = some y := hg 0 _ rfl
    obtain ⟨y1, h1⟩ : ∃ y, DataW.trod enc Tryz.prog w 0 sp held g 47 (([a, b].drop 1).take (Tryz.prog.cellsOf 47)) = some y := hg 1 _ rfl
    rw [c38] at h0
    rw [c56] at h1
    obtain ⟨o, A, c, rfl, p1, p2⟩ := read_ints h0
    obtain ⟨n, B, d, rfl, q1, q2⟩ := read_rows h1
    exact ⟨by intro u hu; simp at hu; rcases hu with rfl | rfl <;> rfl, ⟨o, n⟩, ⟨A, c, B, d, rfl, p1, q1⟩, p2, q2⟩) h
  obtain ⟨h1, h2⟩ := slOf_split hs (R' := RRel) (Q := RelI) fun c x hx => hx
  exact ⟨l, A, c, rfl, h1, h2⟩
theorem read_u8 {fuel : Nat} {c : Value} {y : DataW H × List MemPlace} (g0 : DataW.trod enc Tryz.prog w 0 sp held fuel 5 [c] = some y) : ∃ a : UInt8, c = .int .u8 (a.toNat : Int) := by
  obtain ⟨m, e, hw⟩ := read_int u5 g0
  cases e
  have hmin : IntKind.u8.min = 0 := by decide
  have hmax : IntKind.u8.max = 255 := by decide
  have : 0 ≤ m ∧ m ≤ 255 := by simpa [Lit.wf, hmin, hmax] using hw
  refine ⟨UInt8.ofNat m.toNat, ?_⟩
  have e : ((UInt8.ofNat m.toNat).toNat : Int) = m := by
    simp [UInt8.toNat_ofNat']
    omega
  rw [e]
theorem read_dig {fuel : Nat} {cs : List Value} {x : DataW H × List MemPlace} (g0 : DataW.trod enc Tryz.prog w 0 sp held fuel 25 cs = some x) (hlen : cs.length = 32) : ∃ d : List UInt8, cs = byteV d ∧ d.length = 32 := by
  obtain ⟨xs, m, rfl, hx, -, hxs, hel⟩ := DataW.trod_array u46 g0
  have : ∃ l : List UInt8, l.length = 32 ∧ ∀ (i : Nat) x, l[i]? = some x → cs[i]? = some (.int .u8 (x.toNat : Int)) := by
    refine pick_list fun i hi => ?_
    have h0 := hel i hi
    rw [c5, Nat.mul_one] at h0
    have hc : ∃ c, cs[i]? = some c := ⟨cs[i], by simp [hlen, hi]⟩
    obtain ⟨c, hc⟩ := hc
    have e : (cs.drop i).take 1 = [c] := by
      rw [List.take_one, List.head?_drop, hc]
      rfl
    rw [e, List.getElem?_eq_getElem (by omega)] at h0
    obtain ⟨a, rfl⟩ := read_u8 h0
    exact ⟨a, hc⟩
  obtain ⟨d, hd, hall⟩ := this
  refine ⟨d, ?_, hd⟩
  apply List.ext_getElem?
  intro i
  by_cases hi : i < 32
  · have := hall i (d[i]'(by omega)) (by simp [hd, hi])
    rw [this]
    simp [byteV, hd, hi]
  · rw [List.getElem?_eq_none (by omega), List.getElem?_eq_none (by simp; omega)]
theorem len43c {l : List Value} (h : l.length = 43) : ∃ a b c d e f g h i j k r, l = a :: b :: c :: d :: e :: f :: g :: h :: i :: j :: k :: r ∧ r.length = 32 := by
  match l, h with
  | a :: b :: c :: d :: e :: f :: g :: h' :: i :: j :: k :: r, h => exact ⟨a, b, c, d, e, f, g, h', i, j, k, r, rfl, by simpa using h⟩
theorem open_msg {cs : List Value} {fuel : Nat} {x : DataW H × List MemPlace} (h : DataW.trod enc Tryz.prog w 0 sp held fuel 27 cs = some x) : ∃ m : Msg, RMsg (Bf.hp w) cs m := by
  obtain ⟨hl, g, hg⟩ := read_struct Tryz.underlying27 h
  rw [c48] at hl
  obtain ⟨a, b, c, d, e, f, g0, h', i, j, k, r, rfl, hr⟩ := len43c hl
  obtain ⟨y0, h0⟩ : ∃ y, DataW.trod enc Tryz.prog w 0 sp held g 3 (((a :: b :: c :: d :: e :: f :: g0 :: h' :: i :: j :: k :: r).drop 0).take (Tryz.prog.cellsOf 3)) = some y := hg 0 _ rfl
  obtain ⟨y1, h1⟩ : ∃ y, DataW.trod enc Tryz.prog w 0 sp held g 3 (((a :: b :: c :: d :: e :: f :: g0 :: h' :: i :: j :: k :: r).drop 1).take (Tryz.prog.cellsOf 3)) = some y := hg 1 _ rfl
  obtain ⟨y2, h2⟩ : ∃ y, DataW.trod enc Tryz.prog w 0 sp held g 3 (((a :: b :: c :: d :: e :: f :: g0 :: h' :: i :: j :: k :: r).drop 2).take (Tryz.prog.cellsOf 3)) = some y := hg 2 _ rfl
  obtain ⟨y3, h3⟩ : ∃ y, DataW.trod enc Tryz.prog w 0 sp held g 3 (((a :: b :: c :: d :: e :: f :: g0 :: h' :: i :: j :: k :: r).drop 3).take (Tryz.prog.cellsOf 3)) = some y := hg 3 _ rfl
  obtain ⟨y4, h4⟩ : ∃ y, DataW.trod enc Tryz.prog w 0 sp held g 3 (((a :: b :: c :: d :: e :: f :: g0 :: h' :: i :: j :: k :: r).drop 4).take (Tryz.prog.cellsOf 3)) = some y := hg 4 _ rfl
  obtain ⟨y5, h5⟩ : ∃ y, DataW.trod enc Tryz.prog w 0 sp held g 3 (((a :: b :: c :: d :: e :: f :: g0 :: h' :: i :: j :: k :: r).drop 5).take (Tryz.prog.cellsOf 3)) = some y := hg 5 _ rfl
  obtain ⟨y6, h6⟩ : ∃ y, DataW.trod enc Tryz.prog w 0 sp held g 3 (((a :: b :: c :: d :: e :: f :: g0 :: h' :: i :: j :: k :: r).drop 6).take (Tryz.prog.cellsOf 3)) = some y := hg 6 _ rfl
  obtain ⟨y7, h7⟩ : ∃ y, DataW.trod enc Tryz.prog w 0 sp held g 3 (((a :: b :: c :: d :: e :: f :: g0 :: h' :: i :: j :: k :: r).drop 7).take (Tryz.prog.cellsOf 3)) = some y := hg 7 _ rfl
  obtain ⟨y8, h8⟩ : ∃ y, DataW.trod enc Tryz.prog w 0 sp held g 22 (((a :: b :: c :: d :: e :: f :: g0 :: h' :: i :: j :: k :: r).drop 8).take (Tryz.prog.cellsOf 22)) = some y := hg 8 _ rfl
  obtain ⟨y9, h9⟩ : ∃ y, DataW.trod enc Tryz.prog w 0 sp held g 22 (((a :: b :: c :: d :: e :: f :: g0 :: h' :: i :: j :: k :: r).drop 9).take (Tryz.prog.cellsOf 22)) = some y := hg 9 _ rfl
  obtain ⟨y10, h10⟩ : ∃ y, DataW.trod enc Tryz.prog w 0 sp held g 23 (((a :: b :: c :: d :: e :: f :: g0 :: h' :: i :: j :: k :: r).drop 10).take (Tryz.prog.cellsOf 23)) = some y := hg 10 _ rfl
  obtain ⟨y11, h11⟩ : ∃ y, DataW.trod enc Tryz.prog w 0 sp held g 25 (((a :: b :: c :: d :: e :: f :: g0 :: h' :: i :: j :: k :: r).drop 11).take (Tryz.prog.cellsOf 25)) = some y := hg 11 _ rfl
  rw [c3] at h0 h1 h2 h3 h4 h5 h6 h7
  rw [c38] at h8 h9
  rw [c44] at h10
  rw [c46] at h11
  obtain ⟨n0, e0, w0⟩ := read_int u3 h0
  cases e0
  replace w0 := int_bounds w0
  obtain ⟨n1, e1, w1⟩ := read_int u3 h1
  cases e1
  replace w1 := int_bounds w1
  obtain ⟨n2, e2, w2⟩ := read_int u3 h2
  cases e2
  replace w2 := int_bounds w2
  obtain ⟨n3, e3, w3⟩ := read_int u3 h3
  cases e3
  replace w3 := int_bounds w3
  obtain ⟨n4, e4, w4⟩ := read_int u3 h4
  cases e4
  replace w4 := int_bounds w4
  obtain ⟨n5, e5, w5⟩ := read_int u3 h5
  cases e5
  replace w5 := int_bounds w5
  obtain ⟨n6, e6, w6⟩ := read_int u3 h6
  cases e6
  replace w6 := int_bounds w6
  obtain ⟨n7, e7, w7⟩ := read_int u3 h7
  cases e7
  replace w7 := int_bounds w7
  obtain ⟨la, A, ca, rfl, p1, p2⟩ := read_ints h8
  obtain ⟨ve, B, cb, rfl, q1, q2⟩ := read_ints h9
  obtain ⟨re, C, cc, rfl, r1, r2⟩ := read_rels h10
  obtain ⟨s, hs, hsl⟩ := read_dig (cs := r.take 32) h11 (by rw [List.length_take, hr]; rfl)
  rw [List.take_of_length_le (by omega)] at hs
  subst hs
  refine ⟨⟨n0, [n1, n2, n3, n4, n5, n6, n7], la, ve, re, s⟩, ⟨n1, n2, n3, n4, n5, n6, n7, A, ca, B, cb, C, cc, rfl, rfl, p1, q1, r1⟩, s_msgW hsl rfl ?_ (s_nums p2) (s_nums q2) (fun y hy => (r2 y hy).ok), w0⟩
  intro z hz
  simp only [List.mem_cons, List.not_mem_nil, or_false] at hz
  rcases hz with rfl | rfl | rfl | rfl | rfl | rfl | rfl <;> assumption
theorem arg_msg (h : Arg enc Tryz.prog W base 27 v) : ∃ (m : Msg) (u : List Value), v = .agg u.toArray ∧ RMsg (Bf.hp W) u m := by
  obtain ⟨k0, f0, x, g0⟩ := h
  unfold Value.okWide at k0
  rw [Tryz.underlying27] at k0
  obtain ⟨cs, rfl, -, -⟩ := k0
  obtain ⟨m, hm⟩ := open_msg g0
  exact ⟨m, _, by simp [Value.cells], hm⟩
end
theorem len3 {l : List Value} (h : l.length = 3) : ∃ a b c, l = [a, b, c] := by
  match l, h with
  | [a, b, c], _ => exact ⟨a, b, c, rfl⟩
theorem ownT' : ownKnob Tryz.checked.prog.godebug = none := by kernel_rfl
theorem laidT' : laidOutB Tryz.checked.prog = true := by kernel_rfl
theorem gK : Tryz.prog.globalNamed "backflush/digest.constants" = some 0 := by kernel_rfl
/-- the constants as whole numbers -/
def kI : List Int := Dg.Kw.map fun x => (x.toNat : Int)
theorem kI_at {M : Mem} (h : At M ⟨0, 0, none⟩ (kI.map fun x => .int .u32 x)) : At M ⟨0, 0, none⟩ (wV Dg.Kw) := by
  have e : (kI.map fun x => Value.int .u32 x) = wV Dg.Kw := by simp [kI, wV]
  rwa [e] at h
theorem kI_laid : (DataW.agg (kI.map fun x => .lit (.int .u32 x)) : DataW Unit) = Rows.laid_backflush_digest_constants := by kernel_rfl
theorem door_met (os : Os) (args : Array Value) : laidMetH Tryz.prog [("backflush/digest.constants", .agg (kI.map fun x => .lit (.int .u32 x)))] ((World.doorLaid Tryz.prog 400 os).forCall (fun _ _ => 0) ⟨#[], args, []⟩).memory :=
  laidMetH_of_parts3 (fuel := 8) (laidMet_of_run' 8 (by kernel_rfl) (by kernel_rfl)) (by kernel_rfl) (by kernel_rfl)
end Go.Proofs.YtghjhdbmkilakaaGreatDoor

/-
  Frames: the tied card of FramesPackSpec.
  Conditions: none.
-/
namespace Go.Proofs.YtghjhdbmkilakaaGreatDoor
open Go Bf
open Go.ChangeShapes Go.WideShapes Go.ChangeAt Go.RowKit
set_option maxRecDepth 100000 in
theorem framesPackSpec_lifted (os : Os) (started : os.Started) (H : Type) (enc : TypeId × Value → H) :
    ReturnsInHanded {} Tryz.checked os 3 .any (fun w args => (Rows.framesPackSpecSpec.pre enc Tryz.prog Tryz.f3 [] false w args ∧ laidMetH Tryz.prog [("backflush/digest.constants", .agg (kI.map fun x => .lit (.int .u32 x)))] w) ∧ sizedMet enc Tryz.prog Tryz.f3 (OpenSpec.ofChange Rows.framesPackSpecSpec) false w args) (Rows.framesPackSpecSpec.post enc Tryz.prog Tryz.f3 false true false false) :=
  lift_true_laid (C := Tryz.checked) (ts := [27, 27, 28]) (tb := 4) (name := "backflush/digest.constants") (g := 0) (ns := kI) started ownT' (by kernel_rfl) Tryz.func3
    (ChangeSpec.witness_shaped (enc := enc) (C := Tryz.checked) (os := os) (X := fun w _ => laidMetH Tryz.prog [("backflush/digest.constants", .agg (kI.map fun x => .lit (.int .u32 x)))] w) false (World.doorLaid Tryz.prog 400 os) #[.agg (List.replicate 8 (Value.int .i64 0) ++ List.replicate 3 (Value.slice none 0 0) ++ List.replicate 32 (Value.int .u8 0)).toArray, .agg (List.replicate 8 (Value.int .i64 0) ++ List.replicate 3 (Value.slice none 0 0) ++ List.replicate 32 (Value.int .u8 0)).toArray, .slice none 0 0] 8 rfl (World.shaped_of_RefB (by kernel_rfl) (by kernel_rfl)) (by kernel_rfl) (by kernel_rfl) (by kernel_rfl) (door_met os _))
    (by rw [Tryz.params3]) laidT' (by kernel_rfl) rfl (fun ds h => match ds, h with | [_, _, _], _ => rfl) rfl Tryz.underlying4
    gK (by kernel_rfl) u137 u116 c116 (by decide)
    (fun W base vs hK0 hl ha => by
      have hK := kI_at hK0
      obtain ⟨v0, v1, v2, rfl⟩ := len3 hl
      obtain ⟨a, au, rfl, qa⟩ := arg_msg (ha 0 27 v0 rfl rfl)
      obtain ⟨b, bu, rfl, qb⟩ := arg_msg (ha 1 27 v1 rfl rfl)
      obtain ⟨c, cA, cc, rfl, qc⟩ := arg_bytes (ha 2 28 v2 rfl rfl)
      exact law3_fn _ hK a b au bu cA cc c qa qb qc)
theorem framesPackSpec_row : Rows.FramesPackSpecSaid :=
  OpenClaim.holds_of_wide 3 Tryz.f3 rfl rfl rfl rfl rfl rfl rfl ⟨rfl, rfl, rfl, rfl, rfl⟩ rfl rfl rfl rfl rfl (by kernel_rfl) Tryz.func3 (by kernel_rfl)
    (of_decide_eq_true (by kernel_rfl)) (by unfold Func.isWrapper; first | (rw [if_pos (by decide +kernel)]; kernel_rfl) | (rw [if_neg (by decide +kernel)]; exact ⟨rfl, rfl⟩))
    (fun os started H enc _ => by
      have h := framesPackSpec_lifted os started H enc
      rw [kI_laid] at h
      exact h)
theorem framesPackSpec_holds : Rows.FramesPackSpecCardSaid :=
  Claim7.holds_tied_plain_at .later [] [.data] true Rows.framesPackSpecCard.stood.harness false
    framesPackSpec_row (fun _ h => by cases h) (by kernel_rfl) (fun _ h => by cases h) framesPackSpec_row_tie rfl ⟨rfl, rfl⟩ (by kernel_rfl) rfl
    (fun f fn hf hfn => by
      obtain rfl : f = 3 := Option.some.inj ((show Tryz.prog.funcNamed "backflush/backflushlaw47.FramesPackSpec" = some 3 by kernel_rfl).symm.trans hf) |>.symm
      obtain rfl : fn = Tryz.f3 := (Option.some.inj (Tryz.func3.symm.trans hfn)).symm
      exact ⟨by kernel_rfl, fun j t ht => by
        rw [Tryz.params3] at ht
        have hm : t ∈ [27, 27, 28] := by simpa using Array.mem_of_getElem? ht
        have hall : ([27, 27, 28].all fun u => !Tryz.prog.wantsStandIn u) = true := by kernel_rfl
        exact (show Tryz.prog.wantsStandIn t = false by simpa using List.all_eq_true.1 hall t hm)⟩)
    (by kernel_rfl)
end Go.Proofs.YtghjhdbmkilakaaGreatDoor

