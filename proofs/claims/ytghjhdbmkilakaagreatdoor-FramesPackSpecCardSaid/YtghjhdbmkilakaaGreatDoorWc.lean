/-
  Texts of the proof, one after the other.
  Conditions: none.
-/
import Derived.Test.YtghjhdbmkilakaaGreatDoorWBfSl
import Derived.Test.YtghjhdbmkilakaaGreatDoorWBfCat
import Derived.Test.YtghjhdbmkilakaaGreatDoorWBfTail
import Derived.Test.YtghjhdbmkilakaaGreatDoorWXs
import Derived.Test.YtghjhdbmkilakaaGreatDoorWb
/-
  Frames: the message of a value.
  Conditions: none.
-/
namespace Go.Proofs.YtghjhdbmkilakaaGreatDoor
open Go Bf
attribute [local irreducible] Tr Exec Stab HasTy Go.Addr.add IntKind.wrap
theorem many_none_mem {α : Type} {g : Val → Option α} {v : Val} (hv : g v = none) : ∀ (l : List Val), v ∈ l → manyO g l = none
  | w :: l, h => by
    rw [manyO]
    rcases List.mem_cons.1 h with rfl | h
    · rw [hv]
    · rw [many_none_mem hv l h]
      cases g w <;> rfl
theorem many_app1 {α : Type} {g : Val → Option α} {l : List Val} {xs : List α} {v : Val} {a : α} (h : manyO g l = some xs) (ha : g v = some a) : manyO g (l ++ [v]) = some (xs ++ [a]) := by
  induction l generalizing xs with
  | nil => cases h; rw [List.nil_append, manyO, ha]; rfl
  | cons w l ih =>
    rw [manyO] at h
    rw [List.cons_append, manyO]
    cases hw : g w with
    | none => rw [hw] at h; cases h
    | some x =>
      cases hl : manyO g l with
      | none => rw [hw, hl] at h; cases h
      | some y =>
        rw [hw, hl] at h; cases h
        rw [ih hl]; rfl
theorem msgO_of {k : Int} {v : Val} {pre : List Val} {a b c d : Val} (hk : v.k = 3) (hl : v.l = pre ++ [a, b, c, d]) (hp : pre.length = 7) :
    msgO k v = (match manyO nO pre, lO nO a, lO nO b, lO relO c, sealO d with
    | some h, some x, some y, some z, some s => some ⟨k, h, x, y, z, s⟩
    | _, _, _, _, _ => none) := by
  have e1 : v.l.drop 7 = [a, b, c, d] := by rw [hl, List.drop_append_of_le_length (by omega), List.drop_of_length_le (by omega), List.nil_append]
  have e2 : v.l.take 7 = pre := by rw [hl, List.take_append_of_le_length (by omega), List.take_of_length_le (by omega)]
  rw [msgO, if_pos ⟨hk, by rw [hl, List.length_append, hp]; rfl⟩, e1, e2]
  rfl
theorem msgO_pre {k : Int} {v w : Val} (h : w ∈ v.l.take 7) (hw : nO w = none) : msgO k v = none := by
  unfold msgO
  split
  · split
    · rw [many_none_mem hw _ h]
    · rfl
  · rfl
def doneE : List PanicEntry := [{ v := .iface 31 (.int .i64 470), recovered := true }]
def zMsg : List Value := (.int .i64 0 :: .int .i64 0 :: .int .i64 0 :: .int .i64 0 :: .int .i64 0 :: .int .i64 0 :: .int .i64 0 :: .int .i64 0 :: .slice none 0 0 :: .slice none 0 0 :: .slice none 0 0 :: byteV (List.replicate 32 0))
set_option maxHeartbeats 1000000 in
theorem rec_msg (M : Mem) (b4 b5 : Nat) (cs : List Value) (hcs : cs.length = 43) (e0 : Value) :
    CD Tryz.prog 57 [.pointer (some ⟨b4, 0, none⟩), .pointer (some ⟨b5, 0, none⟩)] (.panicking errCh) M [box b4 27 cs, box b5 31 [e0]]
      (fun u' M' A' => u' = .panicking doneE ∧ M = M' ∧ A' = [box b4 27 zMsg, box b5 31 [.int .i64 470]]) := by
  refine CD.intro (n := 7) Tryz.func57 rfl rfl Tryz.ntmps57 rfl rfl rfl (v := .iface 31 (.int .i64 470)) (.inl ⟨[], rfl, rfl⟩) fun E F => ?_
  (repeat (first | ((with_reducible refine Tr.step rfl ?_); (first | (refine xmQ (z := ?_)) | ((with_reducible refine Knd.binOp ?_); (refine Exec.stab rfl (Stab.ifacene rfl (tysOk.get rfl) rfl) rfl ?_)) | ((with_reducible refine Knd.store ?_); (first | (refine xSQ (z := ?_)) | (refine Exec.storeW rfl rfl (tysOk.get rfl) (by repeat (first | exact Upd.here | apply Upd.there)) (by first | rfl | assumption) (by first | rfl | assumption) (by exact (by repeat (first | exact AllOne.nil | refine AllOne.cons (by first | rfl | assumption) ?_))) ?_))) | ((with_reducible refine Knd.build ?_); (refine Exec.stab rfl (Stab.build tysOk rfl rfl rfl rfl (by repeat (exact BuildP.nil))) rfl ?_)))) | (with_reducible first | apply Tr.next | apply Tr.seq | apply Tr.region | apply Tr.nil) | (refine Tr.cond_bt rfl (by (with_reducible rfl)) ?_)))
  refine Tr.doneC (by first | exact .inl rfl | exact .inr rfl) rfl (by repeat (exact RVs.nil)) (Mem.le.refl _) DropL.refl ⟨rfl, rfl, rfl⟩
set_option maxHeartbeats 1000000 in
theorem rec_idle47 (M : Mem) (b4 b5 : Nat) (A : List Res) :
    CD Tryz.prog 57 [.pointer (some ⟨b4, 0, none⟩), .pointer (some ⟨b5, 0, none⟩)] .returning M A
      (fun u' M' A' => u' = .returning ∧ M = M' ∧ A' = A) := by
  refine CD.intro (n := 7) Tryz.func57 rfl rfl Tryz.ntmps57 rfl rfl rfl (v := .nilIface) (.inr ⟨rfl, rfl, rfl⟩) fun E F => ?_
  (repeat (first | ((with_reducible refine Tr.step rfl ?_); (first | (refine xmQ (z := ?_)) | ((with_reducible refine Knd.binOp ?_); (refine Exec.stab rfl (Stab.nilne rfl (tysOk.get rfl) rfl) rfl ?_)))) | (with_reducible first | apply Tr.next | apply Tr.seq | apply Tr.region | apply Tr.nil | apply Tr.skip) | (refine Tr.cond_bf rfl (by (with_reducible rfl)) ?_)))
  refine Tr.doneC (by first | exact .inl rfl | exact .inr rfl) rfl (by repeat (exact RVs.nil)) (Mem.le.refl _) DropL.refl ⟨rfl, rfl, rfl⟩
def RMsgE (M : Mem) (r : Value) (o : Option Msg) : Prop := match o with
  | some m => ∃ cs : List Value, r = .tuple #[.agg cs.toArray, .int .i64 0] ∧ RMsg M cs m
  | none => r = .tuple #[.agg zMsg.toArray, .int .i64 470]
theorem seven {l : List Int} (h : l.length = 7) : ∃ a b c d e f g, l = [a, b, c, d, e, f, g] :=
  match l, h with
  | [a, b, c, d, e, f, g], _ => ⟨a, b, c, d, e, f, g, rfl⟩
theorem zSl : (byteV (List.replicate 32 0)).length = 32 := by simp
set_option maxHeartbeats 1000000 in
theorem msg_fail {E : World} {F : List Res} {M0 M : Mem} {R : Value → Mem → List Res → Prop} {b3 b4 b5 : Nat} {cs cs3 : List Value} {e0 : Value} (hcl : cs.length = 43) (hm : Mem.le M0 M) (hR : R (.tuple #[.agg zMsg.toArray, .int .i64 470]) M []) :
    Tr E ⟨60, [(5, .pointer (some ⟨b5, 0, none⟩)), (4, .pointer (some ⟨b4, 0, none⟩))], [{ target := .fn (.func 57) #[.pointer (some ⟨b4, 0, none⟩), .pointer (some ⟨b5, 0, none⟩)], args := #[] }], M, box b5 31 [e0] :: box b4 27 cs :: box b3 53 cs3 :: ([] ++ F)⟩
      (bodyPostD Tryz.prog Tryz.f25 (Post E F M0 R) (.panic errCh)) := by
  refine Tr.panicD (vs0 := []) (cap := [.pointer (some ⟨b4, 0, none⟩), .pointer (some ⟨b5, 0, none⟩)]) (A := [box b4 27 cs, box b5 31 [e0]]) (F1 := box b3 53 cs3 :: ([] ++ F)) (rec_msg M b4 b5 _ hcl _) (List.Perm.swap _ _ _) rfl ?_
  rintro u' M'' A'' hm' ⟨rfl, rfl, rfl⟩
  refine ⟨rfl, _, (by repeat (first | exact RVs.nil | (apply RVs.cons; (first | exact RV.cellW (by rfl) (tysOk.get (by rfl)) (by rfl) (by repeat (first | exact Has.here | apply Has.there)) (by first | rfl | assumption) | exact RV.cell (by rfl) (tysOk.get (by rfl)) (by rfl) (by repeat (first | exact Has.here | apply Has.there)))))), hm, [box b4 27 zMsg, box b5 31 [.int .i64 470], box b3 53 _], [], List.Perm.refl _, ?_⟩
  exact hR
set_option maxHeartbeats 16000000 in
theorem message_fn (M : Mem) (k : Int) (hk64 : -9223372036854775808 ≤ k ∧ k ≤ 9223372036854775807) (v : Val) (r0 : Value) (hV : RV M r0 v) (hf : formed v = true) (hs : (enc v).length ≤ 1000000) :
    Fn0 Tryz.prog 25 [.int .i64 k, r0] M (fun r M' => RMsgE M' r (msgO k v)) := by
  obtain ⟨A0, c0, rfl, hV0, hVl, -⟩ := hV.open_
  have hvl := hVl.len_le
  have hO := hV.ok64
  refine Fn.introD Tryz.func25 rfl rfl Tryz.ntmps25 rfl fun E F => ?_
  (repeat (first | ((with_reducible refine Tr.step rfl ?_); (first | ((with_reducible refine Knd.makeFunc ?_); (refine Exec.stab rfl (Stab.makeFunc rfl rfl) rfl ?_)) | ((with_reducible refine Knd.box ?_); (refine Exec.box rfl rfl (fun b => ?_))) | ((with_reducible refine Knd.alloc ?_); (first | (refine Exec.alloc (tysOk.get rfl) rfl rfl (fun b => ?_)) | (refine Exec.alloc1 (tysOk.get rfl) rfl rfl rfl (fun b => ?_)))))) | (with_reducible first | apply Tr.next | apply Tr.seq | apply Tr.region | apply Tr.nil)))
  refine Tr.step rfl ?_
  refine Exec.defer (first := []) (vs := []) rfl rfl ?_
  (repeat (first | ((with_reducible refine Tr.step rfl ?_); (first | (refine xmQ (z := ?_)) | (refine xlQ (z := ?_)) | (refine xfQ (z := ?_)) | (refine xiQ (z := ?_)))) | (with_reducible first | apply Tr.next | apply Tr.seq | apply Tr.region | apply Tr.nil)))
  generalize b = b5
  rename_i b3 b4
  refine Tr.cells (b := b4) (cs' := (.int .i64 0 :: .int .i64 0 :: .int .i64 0 :: .int .i64 0 :: .int .i64 0 :: .int .i64 0 :: .int .i64 0 :: .int .i64 0 :: .slice none 0 0 :: .slice none 0 0 :: .slice none 0 0 :: byteV (List.replicate 32 0))) (by repeat (first | exact Upd.here | apply Upd.there)) (by kernel_rfl) ?_
  refine Tr.cells (b := b5) (cs' := [.int .i64 0]) (by repeat (first | exact Upd.here | apply Upd.there)) rfl ?_
  by_cases c1 : v.k ≠ 3
  · have e : msgO k v = none := by unfold msgO; rw [if_neg (fun h => c1 h.1)]
    rw [e]
    have hcl : ((.int .i64 0 :: .int .i64 0 :: .int .i64 0 :: .int .i64 0 :: .int .i64 0 :: .int .i64 0 :: .int .i64 0 :: .int .i64 0 :: .slice none 0 0 :: .slice none 0 0 :: .slice none 0 0 :: byteV (List.replicate 32 0)) : List Value).length = 43 := by simp only [List.length_cons, zSl]
    (repeat (first | ((with_reducible refine Tr.step rfl ?_); (first | ((with_reducible refine Knd.makeInterface ?_); (refine Exec.stab rfl (Stab.makeIface rfl (by kernel_rfl)) rfl ?_)) | ((with_reducible refine Knd.panic ?_); (refine Exec.panic rfl ?_)) | ((with_reducible refine Knd.pick ?_); (refine Exec.stab rfl (Stab.pick_td rfl (by (with_reducible assumption)) rfl) rfl ?_)))) | (with_reducible first | apply Tr.next | apply Tr.region | apply Tr.nil) | (refine Tr.guard_n' rfl rfl rfl (by (with_reducible assumption)) rfl rfl ?_) | (with_reducible refine Tr.then_panic ?_) | (refine Tr.cond_bt rfl (by (with_reducible rfl)) ?_)))
    refine Tr.less [(5, .pointer (some ⟨b5, 0, none⟩)), (4, .pointer (some ⟨b4, 0, none⟩))] _ (by repeat (first | exact SubFr.nil | refine SubFr.cons rfl ?_)) (by repeat (first | exact DropL.refl | apply DropL.skip)) ?_
    exact msg_fail hcl (Mem.le.refl _) ⟨rfl, rfl⟩
  have hk3 : v.k = 3 := by omega
  by_cases c2 : (v.l.length : Int) ≠ 11
  · have e : msgO k v = none := by unfold msgO; rw [if_neg (fun h => c2 (by rw [h.2]; rfl))]
    rw [e]
    have hcl : ((.int .i64 0 :: .int .i64 0 :: .int .i64 0 :: .int .i64 0 :: .int .i64 0 :: .int .i64 0 :: .int .i64 0 :: .int .i64 0 :: .slice none 0 0 :: .slice none 0 0 :: .slice none 0 0 :: byteV (List.replicate 32 0)) : List Value).length = 43 := by simp only [List.length_cons, zSl]
    (repeat (first | ((with_reducible refine Tr.step rfl ?_); (first | ((with_reducible refine Knd.makeInterface ?_); (refine Exec.stab rfl (Stab.makeIface rfl (by kernel_rfl)) rfl ?_)) | ((with_reducible refine Knd.panic ?_); (refine Exec.panic rfl ?_)) | ((with_reducible refine Knd.pick ?_); (refine Exec.stab rfl (Stab.pick_fd rfl (by (with_reducible assumption)) rfl) rfl ?_)))) | (with_reducible first | apply Tr.next | apply Tr.region | apply Tr.nil) | ((refine Tr.guard_y' rfl rfl rfl (by (with_reducible assumption)) ?_); (first | (refine xlQ (z := ?_)) | (refine xfQ (z := ?_)) | (refine xnQ (z := ?_)) | (refine xiQ (z := ?_)))) | (with_reducible refine Tr.then_panic ?_) | (refine Tr.cond_t rfl (by (with_reducible assumption)) ?_)))
    refine Tr.less [(5, .pointer (some ⟨b5, 0, none⟩)), (4, .pointer (some ⟨b4, 0, none⟩))] _ (by repeat (first | exact SubFr.nil | refine SubFr.cons rfl ?_)) (by repeat (first | exact DropL.refl | apply DropL.skip)) ?_
    exact msg_fail hcl (Mem.le.refl _) ⟨rfl, rfl⟩
  have hl11 : v.l.length = 11 := by omega
  have hsm := small_sub hf hs hk3
  (repeat (first | ((with_reducible refine Tr.step rfl ?_); (first | (refine xmQ (z := ?_)) | (refine xaQ (z := ?_)) | (refine xlQ (z := ?_)) | (refine xfQ (z := ?_)) | (refine xnQ (z := ?_)) | ((with_reducible refine Knd.pick ?_); (refine Exec.stab rfl (Stab.pick_fd rfl (by (with_reducible assumption)) rfl) rfl ?_)) | (refine xSQ (z := ?_)) | ((with_reducible refine Knd.box ?_); (refine Exec.box rfl rfl (fun b => ?_))) | ((with_reducible refine Knd.build ?_); (refine Exec.stab rfl (Stab.build tysOk rfl rfl rfl rfl (by repeat (first | exact BuildP.nil | ((apply BuildP.one); (rfl); (rfl); (first | rfl | assumption); (repeat (first | exact SetL.z | apply SetL.s)))))) rfl ?_)) | ((with_reducible refine Knd.buildSlice ?_); (refine Exec.buildSlice (tysOk.get rfl) rfl (tysOk.get rfl) rfl rfl rfl rfl rfl (by repeat (first | exact BuildP.nil | ((apply BuildP.one); (rfl); (rfl); (first | rfl | assumption); (repeat (first | exact SetL.z | apply SetL.s))))) rfl (fun b => ?_))))) | (with_reducible first | apply Tr.next | apply Tr.seq | apply Tr.region | apply Tr.nil) | ((refine Tr.guard_y' rfl rfl rfl (by (with_reducible assumption)) ?_); (first | (refine xlQ (z := ?_)) | (refine xfQ (z := ?_)) | (refine xnQ (z := ?_)) | (refine xiQ (z := ?_)))) | (with_reducible first | apply Tr.skip | apply Tr.block) | (refine Tr.cond_f rfl (by (with_reducible assumption)) ?_)))
  generalize b = b33
  rename_i bq
  refine Tr.cells (b := b33) (cs' := [.pointer (some ⟨b4, 1, none⟩), .pointer (some ⟨b4, 2, none⟩), .pointer (some ⟨b4, 3, none⟩), .pointer (some ⟨b4, 4, none⟩), .pointer (some ⟨b4, 5, none⟩), .pointer (some ⟨b4, 6, none⟩), .pointer (some ⟨b4, 7, none⟩)]) (by repeat (first | exact Upd.here | apply Upd.there)) rfl ?_
  refine Tr.loop (α := Nat × List Int × List Val × Option Addr × Nat × Mem) (fun y => ⟨60, [(35, .int .i64 (y.1 : Int)), (34, .int .i64 7), (33, .slice (some ⟨b33, 0, none⟩) 7 7), (6, .pointer (some ⟨bq, 0, none⟩)), (5, .pointer (some ⟨b5, 0, none⟩)), (4, .pointer (some ⟨b4, 0, none⟩))], [{ target := .fn (.func 57) #[.pointer (some ⟨b4, 0, none⟩), .pointer (some ⟨b5, 0, none⟩)], args := #[] }], y.2.2.2.2.2,
      box b33 102 [.pointer (some ⟨b4, 1, none⟩), .pointer (some ⟨b4, 2, none⟩), .pointer (some ⟨b4, 3, none⟩), .pointer (some ⟨b4, 4, none⟩), .pointer (some ⟨b4, 5, none⟩), .pointer (some ⟨b4, 6, none⟩), .pointer (some ⟨b4, 7, none⟩)] :: box bq 101 [.slice y.2.2.2.1 y.2.2.1.length y.2.2.2.2.1] :: box b5 31 [.int .i64 0] :: box b4 27 (.int .i64 k :: (intV y.2.1 ++ (.slice none 0 0 :: .slice none 0 0 :: .slice none 0 0 :: byteV (List.replicate 32 0)))) :: box b3 53 [.int .i64 v.k, .int .i64 v.n, .string ⟨v.s.toArray⟩, .slice A0 v.l.length c0] :: ([] ++ F)⟩)
    (fun y => y.1 ≤ 7 ∧ y.2.1.length = 7 ∧ Mem.le M y.2.2.2.2.2 ∧ RVals y.2.2.2.2.2 (.slice y.2.2.2.1 y.2.2.1.length y.2.2.2.2.1) y.2.2.1 ∧ SmallL y.2.2.1 ∧ ∃ pre, v.l = pre ++ y.2.2.1 ∧ pre.length = y.1 ∧ manyO nO pre = some (y.2.1.take y.1)) (fun y => 7 - y.1)
    (0, [0, 0, 0, 0, 0, 0, 0], v.l, A0, c0, M) ⟨by omega, rfl, Mem.le.refl _, hVl, hsm, [], rfl, rfl, rfl⟩ hsQ (fun y hy => ?_)
  obtain ⟨i, hs, l', A1, c1', M1⟩ := y
  obtain ⟨hi, hh7, hm1, hl1, hs1, pre, hpre, hpl, hmany⟩ := hy
  dsimp only at hi hh7 hm1 hl1 hs1 hpre hpl hmany ⊢
  obtain ⟨h0, h1, h2, h3, h4, h5, h6, rfl⟩ := seven hh7
  have hll : l'.length + i = 11 := by rw [hpre, List.length_append] at hl11; omega
  refine Tr.cells (b := b4) (cs' := (.int .i64 k :: .int .i64 h0 :: .int .i64 h1 :: .int .i64 h2 :: .int .i64 h3 :: .int .i64 h4 :: .int .i64 h5 :: .int .i64 h6 :: .slice none 0 0 :: .slice none 0 0 :: .slice none 0 0 :: byteV (List.replicate 32 0))) (by repeat (first | exact Upd.here | apply Upd.there)) rfl ?_
  have hcl : ((.int .i64 k :: .int .i64 h0 :: .int .i64 h1 :: .int .i64 h2 :: .int .i64 h3 :: .int .i64 h4 :: .int .i64 h5 :: .int .i64 h6 :: .slice none 0 0 :: .slice none 0 0 :: .slice none 0 0 :: byteV (List.replicate 32 0)) : List Value).length = 43 := by simp only [List.length_cons, zSl]
  obtain rfl | rfl | rfl | rfl | rfl | rfl | rfl | rfl : i = 0 ∨ i = 1 ∨ i = 2 ∨ i = 3 ∨ i = 4 ∨ i = 5 ∨ i = 6 ∨ i = 7 := by omega
  · (repeat (first | ((with_reducible refine Tr.step rfl ?_); (first | (refine xmQ (z := ?_)) | (refine xaQ (z := ?_)) | (refine xlQ (z := ?_)) | (refine xiQ (z := ?_)) | ((with_reducible refine Knd.indexAddr ?_); (refine Exec.stab rfl (Stab.indexB0 rfl rfl (tysOk.get rfl) rfl (tysOk.get rfl) rfl (by omega) (by omega)) rfl ?_)))) | (with_reducible first | apply Tr.next | apply Tr.seq | apply Tr.region | apply Tr.nil | apply Tr.skip | apply Tr.block) | (refine Tr.cond_t rfl (by first | (with_reducible assumption) | omega) ?_)))
    ((refine Tr.step rfl ?_))
    refine Exec.callP (A := [box bq 101 [.slice A1 l'.length c1']]) rfl (number_rd M1 bq l' _ ⟨A1, c1', rfl, hl1, hs1⟩) (List.Perm.swap _ _ _) rfl (fun r M' A' hm hR => ?_) (fun ch M' A' hm hR => ?_)
    rotate_left
    · obtain ⟨⟨rfl, rfl⟩, hno⟩ := hR
      cases l' with
      | nil => exact absurd hll (by simp)
      | cons w l' =>
      have e : msgO k v = none := msgO_pre (by rw [hpre, List.take_append]; exact List.mem_append_right _ (by rw [hpl]; simp)) (hno w l' rfl)
      rw [e]
      (repeat (first | (with_reducible first | apply Tr.then_panic | apply Tr.in_panic)))
      refine Tr.less [(5, .pointer (some ⟨b5, 0, none⟩)), (4, .pointer (some ⟨b4, 0, none⟩))] (box b5 31 [.int .i64 0] :: box b4 27 (.int .i64 k :: .int .i64 h0 :: .int .i64 h1 :: .int .i64 h2 :: .int .i64 h3 :: .int .i64 h4 :: .int .i64 h5 :: .int .i64 h6 :: .slice none 0 0 :: .slice none 0 0 :: .slice none 0 0 :: byteV (List.replicate 32 0)) :: box b3 53 [.int .i64 v.k, .int .i64 v.n, .string ⟨v.s.toArray⟩, .slice A0 v.l.length c0] :: ([] ++ F)) (by repeat (first | exact SubFr.nil | refine SubFr.cons rfl ?_)) (by repeat (first | exact DropL.refl | apply DropL.skip)) ?_
      exact msg_fail hcl (hm1.trans hm) ⟨rfl, rfl⟩
    obtain ⟨-, w, l2, a, rfl, ha, rfl, x', rfl, A2, c2, rfl, hl2, hs2⟩ := hR
    refine ftQ (r := box b33 102 [.pointer (some ⟨b4, 1, none⟩), .pointer (some ⟨b4, 2, none⟩), .pointer (some ⟨b4, 3, none⟩), .pointer (some ⟨b4, 4, none⟩), .pointer (some ⟨b4, 5, none⟩), .pointer (some ⟨b4, 6, none⟩), .pointer (some ⟨b4, 7, none⟩)]) (k := ?_)
    (repeat (first | ((with_reducible refine Tr.step rfl ?_); (first | (refine xmQ (z := ?_)) | ((with_reducible refine Knd.nilCheck ?_); (refine Exec.stab rfl (Stab.nilCheck rfl) rfl ?_)) | (refine xdQ (z := ?_)) | (refine xSQ (z := ?_)))) | (with_reducible first | apply Tr.next | apply Tr.region | apply Tr.nil | apply Tr.in_normal)))
    refine Tr.again (1, [a, h1, h2, h3, h4, h5, h6], l2, A2, c2, M') ⟨by omega, rfl, hm1.trans hm, hl2, hs2, pre ++ [w], by rw [hpre, List.append_assoc]; rfl, by rw [List.length_append, hpl]; rfl, many_app1 hmany ha⟩ (by simp only; omega) hsQ
  · (repeat (first | ((with_reducible refine Tr.step rfl ?_); (first | (refine xmQ (z := ?_)) | (refine xaQ (z := ?_)) | (refine xlQ (z := ?_)) | (refine xiQ (z := ?_)) | ((with_reducible refine Knd.indexAddr ?_); (refine Exec.stab rfl (Stab.indexB0 rfl rfl (tysOk.get rfl) rfl (tysOk.get rfl) rfl (by omega) (by omega)) rfl ?_)))) | (with_reducible first | apply Tr.next | apply Tr.seq | apply Tr.region | apply Tr.nil | apply Tr.skip | apply Tr.block) | (refine Tr.cond_t rfl (by first | (with_reducible assumption) | omega) ?_)))
    ((refine Tr.step rfl ?_))
    refine Exec.callP (A := [box bq 101 [.slice A1 l'.length c1']]) rfl (number_rd M1 bq l' _ ⟨A1, c1', rfl, hl1, hs1⟩) (List.Perm.swap _ _ _) rfl (fun r M' A' hm hR => ?_) (fun ch M' A' hm hR => ?_)
    rotate_left
    · obtain ⟨⟨rfl, rfl⟩, hno⟩ := hR
      cases l' with
      | nil => exact absurd hll (by simp)
      | cons w l' =>
      have e : msgO k v = none := msgO_pre (by rw [hpre, List.take_append]; exact List.mem_append_right _ (by rw [hpl]; simp)) (hno w l' rfl)
      rw [e]
      (repeat (first | (with_reducible first | apply Tr.then_panic | apply Tr.in_panic)))
      refine Tr.less [(5, .pointer (some ⟨b5, 0, none⟩)), (4, .pointer (some ⟨b4, 0, none⟩))] (box b5 31 [.int .i64 0] :: box b4 27 (.int .i64 k :: .int .i64 h0 :: .int .i64 h1 :: .int .i64 h2 :: .int .i64 h3 :: .int .i64 h4 :: .int .i64 h5 :: .int .i64 h6 :: .slice none 0 0 :: .slice none 0 0 :: .slice none 0 0 :: byteV (List.replicate 32 0)) :: box b3 53 [.int .i64 v.k, .int .i64 v.n, .string ⟨v.s.toArray⟩, .slice A0 v.l.length c0] :: ([] ++ F)) (by repeat (first | exact SubFr.nil | refine SubFr.cons rfl ?_)) (by repeat (first | exact DropL.refl | apply DropL.skip)) ?_
      exact msg_fail hcl (hm1.trans hm) ⟨rfl, rfl⟩
    obtain ⟨-, w, l2, a, rfl, ha, rfl, x', rfl, A2, c2, rfl, hl2, hs2⟩ := hR
    refine ftQ (r := box b33 102 [.pointer (some ⟨b4, 1, none⟩), .pointer (some ⟨b4, 2, none⟩), .pointer (some ⟨b4, 3, none⟩), .pointer (some ⟨b4, 4, none⟩), .pointer (some ⟨b4, 5, none⟩), .pointer (some ⟨b4, 6, none⟩), .pointer (some ⟨b4, 7, none⟩)]) (k := ?_)
    (repeat (first | ((with_reducible refine Tr.step rfl ?_); (first | (refine xmQ (z := ?_)) | ((with_reducible refine Knd.nilCheck ?_); (refine Exec.stab rfl (Stab.nilCheck rfl) rfl ?_)) | (refine xdQ (z := ?_)) | (refine xSQ (z := ?_)))) | (with_reducible first | apply Tr.next | apply Tr.region | apply Tr.nil | apply Tr.in_normal)))
    refine Tr.again (2, [h0, a, h2, h3, h4, h5, h6], l2, A2, c2, M') ⟨by omega, rfl, hm1.trans hm, hl2, hs2, pre ++ [w], by rw [hpre, List.append_assoc]; rfl, by rw [List.length_append, hpl]; rfl, many_app1 hmany ha⟩ (by simp only; omega) hsQ
  · (repeat (first | ((with_reducible refine Tr.step rfl ?_); (first | (refine xmQ (z := ?_)) | (refine xaQ (z := ?_)) | (refine xlQ (z := ?_)) | (refine xiQ (z := ?_)) | ((with_reducible refine Knd.indexAddr ?_); (refine Exec.stab rfl (Stab.indexB0 rfl rfl (tysOk.get rfl) rfl (tysOk.get rfl) rfl (by omega) (by omega)) rfl ?_)))) | (with_reducible first | apply Tr.next | apply Tr.seq | apply Tr.region | apply Tr.nil | apply Tr.skip | apply Tr.block) | (refine Tr.cond_t rfl (by first | (with_reducible assumption) | omega) ?_)))
    ((refine Tr.step rfl ?_))
    refine Exec.callP (A := [box bq 101 [.slice A1 l'.length c1']]) rfl (number_rd M1 bq l' _ ⟨A1, c1', rfl, hl1, hs1⟩) (List.Perm.swap _ _ _) rfl (fun r M' A' hm hR => ?_) (fun ch M' A' hm hR => ?_)
    rotate_left
    · obtain ⟨⟨rfl, rfl⟩, hno⟩ := hR
      cases l' with
      | nil => exact absurd hll (by simp)
      | cons w l' =>
      have e : msgO k v = none := msgO_pre (by rw [hpre, List.take_append]; exact List.mem_append_right _ (by rw [hpl]; simp)) (hno w l' rfl)
      rw [e]
      (repeat (first | (with_reducible first | apply Tr.then_panic | apply Tr.in_panic)))
      refine Tr.less [(5, .pointer (some ⟨b5, 0, none⟩)), (4, .pointer (some ⟨b4, 0, none⟩))] (box b5 31 [.int .i64 0] :: box b4 27 (.int .i64 k :: .int .i64 h0 :: .int .i64 h1 :: .int .i64 h2 :: .int .i64 h3 :: .int .i64 h4 :: .int .i64 h5 :: .int .i64 h6 :: .slice none 0 0 :: .slice none 0 0 :: .slice none 0 0 :: byteV (List.replicate 32 0)) :: box b3 53 [.int .i64 v.k, .int .i64 v.n, .string ⟨v.s.toArray⟩, .slice A0 v.l.length c0] :: ([] ++ F)) (by repeat (first | exact SubFr.nil | refine SubFr.cons rfl ?_)) (by repeat (first | exact DropL.refl | apply DropL.skip)) ?_
      exact msg_fail hcl (hm1.trans hm) ⟨rfl, rfl⟩
    obtain ⟨-, w, l2, a, rfl, ha, rfl, x', rfl, A2, c2, rfl, hl2, hs2⟩ := hR
    refine ftQ (r := box b33 102 [.pointer (some ⟨b4, 1, none⟩), .pointer (some ⟨b4, 2, none⟩), .pointer (some ⟨b4, 3, none⟩), .pointer (some ⟨b4, 4, none⟩), .pointer (some ⟨b4, 5, none⟩), .pointer (some ⟨b4, 6, none⟩), .pointer (some ⟨b4, 7, none⟩)]) (k := ?_)
    (repeat (first | ((with_reducible refine Tr.step rfl ?_); (first | (refine xmQ (z := ?_)) | ((with_reducible refine Knd.nilCheck ?_); (refine Exec.stab rfl (Stab.nilCheck rfl) rfl ?_)) | (refine xdQ (z := ?_)) | (refine xSQ (z := ?_)))) | (with_reducible first | apply Tr.next | apply Tr.region | apply Tr.nil | apply Tr.in_normal)))
    refine Tr.again (3, [h0, h1, a, h3, h4, h5, h6], l2, A2, c2, M') ⟨by omega, rfl, hm1.trans hm, hl2, hs2, pre ++ [w], by rw [hpre, List.append_assoc]; rfl, by rw [List.length_append, hpl]; rfl, many_app1 hmany ha⟩ (by simp only; omega) hsQ
  · (repeat (first | ((with_reducible refine Tr.step rfl ?_); (first | (refine xmQ (z := ?_)) | (refine xaQ (z := ?_)) | (refine xlQ (z := ?_)) | (refine xiQ (z := ?_)) | ((with_reducible refine Knd.indexAddr ?_); (refine Exec.stab rfl (Stab.indexB0 rfl rfl (tysOk.get rfl) rfl (tysOk.get rfl) rfl (by omega) (by omega)) rfl ?_)))) | (with_reducible first | apply Tr.next | apply Tr.seq | apply Tr.region | apply Tr.nil | apply Tr.skip | apply Tr.block) | (refine Tr.cond_t rfl (by first | (with_reducible assumption) | omega) ?_)))
    ((refine Tr.step rfl ?_))
    refine Exec.callP (A := [box bq 101 [.slice A1 l'.length c1']]) rfl (number_rd M1 bq l' _ ⟨A1, c1', rfl, hl1, hs1⟩) (List.Perm.swap _ _ _) rfl (fun r M' A' hm hR => ?_) (fun ch M' A' hm hR => ?_)
    rotate_left
    · obtain ⟨⟨rfl, rfl⟩, hno⟩ := hR
      cases l' with
      | nil => exact absurd hll (by simp)
      | cons w l' =>
      have e : msgO k v = none := msgO_pre (by rw [hpre, List.take_append]; exact List.mem_append_right _ (by rw [hpl]; simp)) (hno w l' rfl)
      rw [e]
      (repeat (first | (with_reducible first | apply Tr.then_panic | apply Tr.in_panic)))
      refine Tr.less [(5, .pointer (some ⟨b5, 0, none⟩)), (4, .pointer (some ⟨b4, 0, none⟩))] (box b5 31 [.int .i64 0] :: box b4 27 (.int .i64 k :: .int .i64 h0 :: .int .i64 h1 :: .int .i64 h2 :: .int .i64 h3 :: .int .i64 h4 :: .int .i64 h5 :: .int .i64 h6 :: .slice none 0 0 :: .slice none 0 0 :: .slice none 0 0 :: byteV (List.replicate 32 0)) :: box b3 53 [.int .i64 v.k, .int .i64 v.n, .string ⟨v.s.toArray⟩, .slice A0 v.l.length c0] :: ([] ++ F)) (by repeat (first | exact SubFr.nil | refine SubFr.cons rfl ?_)) (by repeat (first | exact DropL.refl | apply DropL.skip)) ?_
      exact msg_fail hcl (hm1.trans hm) ⟨rfl, rfl⟩
    obtain ⟨-, w, l2, a, rfl, ha, rfl, x', rfl, A2, c2, rfl, hl2, hs2⟩ := hR
    refine ftQ (r := box b33 102 [.pointer (some ⟨b4, 1, none⟩), .pointer (some ⟨b4, 2, none⟩), .pointer (some ⟨b4, 3, none⟩), .pointer (some ⟨b4, 4, none⟩), .pointer (some ⟨b4, 5, none⟩), .pointer (some ⟨b4, 6, none⟩), .pointer (some ⟨b4, 7, none⟩)]) (k := ?_)
    (repeat (first | ((with_reducible refine Tr.step rfl ?_); (first | (refine xmQ (z := ?_)) | ((with_reducible refine Knd.nilCheck ?_); (refine Exec.stab rfl (Stab.nilCheck rfl) rfl ?_)) | (refine xdQ (z := ?_)) | (refine xSQ (z := ?_)))) | (with_reducible first | apply Tr.next | apply Tr.region | apply Tr.nil | apply Tr.in_normal)))
    refine Tr.again (4, [h0, h1, h2, a, h4, h5, h6], l2, A2, c2, M') ⟨by omega, rfl, hm1.trans hm, hl2, hs2, pre ++ [w], by rw [hpre, List.append_assoc]; rfl, by rw [List.length_append, hpl]; rfl, many_app1 hmany ha⟩ (by simp only; omega) hsQ
  · (repeat (first | ((with_reducible refine Tr.step rfl ?_); (first | (refine xmQ (z := ?_)) | (refine xaQ (z := ?_)) | (refine xlQ (z := ?_)) | (refine xiQ (z := ?_)) | ((with_reducible refine Knd.indexAddr ?_); (refine Exec.stab rfl (Stab.indexB0 rfl rfl (tysOk.get rfl) rfl (tysOk.get rfl) rfl (by omega) (by omega)) rfl ?_)))) | (with_reducible first | apply Tr.next | apply Tr.seq | apply Tr.region | apply Tr.nil | apply Tr.skip | apply Tr.block) | (refine Tr.cond_t rfl (by first | (with_reducible assumption) | omega) ?_)))
    ((refine Tr.step rfl ?_))
    refine Exec.callP (A := [box bq 101 [.slice A1 l'.length c1']]) rfl (number_rd M1 bq l' _ ⟨A1, c1', rfl, hl1, hs1⟩) (List.Perm.swap _ _ _) rfl (fun r M' A' hm hR => ?_) (fun ch M' A' hm hR => ?_)
    rotate_left
    · obtain ⟨⟨rfl, rfl⟩, hno⟩ := hR
      cases l' with
      | nil => exact absurd hll (by simp)
      | cons w l' =>
      have e : msgO k v = none := msgO_pre (by rw [hpre, List.take_append]; exact List.mem_append_right _ (by rw [hpl]; simp)) (hno w l' rfl)
      rw [e]
      (repeat (first | (with_reducible first | apply Tr.then_panic | apply Tr.in_panic)))
      refine Tr.less [(5, .pointer (some ⟨b5, 0, none⟩)), (4, .pointer (some ⟨b4, 0, none⟩))] (box b5 31 [.int .i64 0] :: box b4 27 (.int .i64 k :: .int .i64 h0 :: .int .i64 h1 :: .int .i64 h2 :: .int .i64 h3 :: .int .i64 h4 :: .int .i64 h5 :: .int .i64 h6 :: .slice none 0 0 :: .slice none 0 0 :: .slice none 0 0 :: byteV (List.replicate 32 0)) :: box b3 53 [.int .i64 v.k, .int .i64 v.n, .string ⟨v.s.toArray⟩, .slice A0 v.l.length c0] :: ([] ++ F)) (by repeat (first | exact SubFr.nil | refine SubFr.cons rfl ?_)) (by repeat (first | exact DropL.refl | apply DropL.skip)) ?_
      exact msg_fail hcl (hm1.trans hm) ⟨rfl, rfl⟩
    obtain ⟨-, w, l2, a, rfl, ha, rfl, x', rfl, A2, c2, rfl, hl2, hs2⟩ := hR
    refine ftQ (r := box b33 102 [.pointer (some ⟨b4, 1, none⟩), .pointer (some ⟨b4, 2, none⟩), .pointer (some ⟨b4, 3, none⟩), .pointer (some ⟨b4, 4, none⟩), .pointer (some ⟨b4, 5, none⟩), .pointer (some ⟨b4, 6, none⟩), .pointer (some ⟨b4, 7, none⟩)]) (k := ?_)
    (repeat (first | ((with_reducible refine Tr.step rfl ?_); (first | (refine xmQ (z := ?_)) | ((with_reducible refine Knd.nilCheck ?_); (refine Exec.stab rfl (Stab.nilCheck rfl) rfl ?_)) | (refine xdQ (z := ?_)) | (refine xSQ (z := ?_)))) | (with_reducible first | apply Tr.next | apply Tr.region | apply Tr.nil | apply Tr.in_normal)))
    refine Tr.again (5, [h0, h1, h2, h3, a, h5, h6], l2, A2, c2, M') ⟨by omega, rfl, hm1.trans hm, hl2, hs2, pre ++ [w], by rw [hpre, List.append_assoc]; rfl, by rw [List.length_append, hpl]; rfl, many_app1 hmany ha⟩ (by simp only; omega) hsQ
  · (repeat (first | ((with_reducible refine Tr.step rfl ?_); (first | (refine xmQ (z := ?_)) | (refine xaQ (z := ?_)) | (refine xlQ (z := ?_)) | (refine xiQ (z := ?_)) | ((with_reducible refine Knd.indexAddr ?_); (refine Exec.stab rfl (Stab.indexB0 rfl rfl (tysOk.get rfl) rfl (tysOk.get rfl) rfl (by omega) (by omega)) rfl ?_)))) | (with_reducible first | apply Tr.next | apply Tr.seq | apply Tr.region | apply Tr.nil | apply Tr.skip | apply Tr.block) | (refine Tr.cond_t rfl (by first | (with_reducible assumption) | omega) ?_)))
    ((refine Tr.step rfl ?_))
    refine Exec.callP (A := [box bq 101 [.slice A1 l'.length c1']]) rfl (number_rd M1 bq l' _ ⟨A1, c1', rfl, hl1, hs1⟩) (List.Perm.swap _ _ _) rfl (fun r M' A' hm hR => ?_) (fun ch M' A' hm hR => ?_)
    rotate_left
    · obtain ⟨⟨rfl, rfl⟩, hno⟩ := hR
      cases l' with
      | nil => exact absurd hll (by simp)
      | cons w l' =>
      have e : msgO k v = none := msgO_pre (by rw [hpre, List.take_append]; exact List.mem_append_right _ (by rw [hpl]; simp)) (hno w l' rfl)
      rw [e]
      (repeat (first | (with_reducible first | apply Tr.then_panic | apply Tr.in_panic)))
      refine Tr.less [(5, .pointer (some ⟨b5, 0, none⟩)), (4, .pointer (some ⟨b4, 0, none⟩))] (box b5 31 [.int .i64 0] :: box b4 27 (.int .i64 k :: .int .i64 h0 :: .int .i64 h1 :: .int .i64 h2 :: .int .i64 h3 :: .int .i64 h4 :: .int .i64 h5 :: .int .i64 h6 :: .slice none 0 0 :: .slice none 0 0 :: .slice none 0 0 :: byteV (List.replicate 32 0)) :: box b3 53 [.int .i64 v.k, .int .i64 v.n, .string ⟨v.s.toArray⟩, .slice A0 v.l.length c0] :: ([] ++ F)) (by repeat (first | exact SubFr.nil | refine SubFr.cons rfl ?_)) (by repeat (first | exact DropL.refl | apply DropL.skip)) ?_
      exact msg_fail hcl (hm1.trans hm) ⟨rfl, rfl⟩
    obtain ⟨-, w, l2, a, rfl, ha, rfl, x', rfl, A2, c2, rfl, hl2, hs2⟩ := hR
    refine ftQ (r := box b33 102 [.pointer (some ⟨b4, 1, none⟩), .pointer (some ⟨b4, 2, none⟩), .pointer (some ⟨b4, 3, none⟩), .pointer (some ⟨b4, 4, none⟩), .pointer (some ⟨b4, 5, none⟩), .pointer (some ⟨b4, 6, none⟩), .pointer (some ⟨b4, 7, none⟩)]) (k := ?_)
    (repeat (first | ((with_reducible refine Tr.step rfl ?_); (first | (refine xmQ (z := ?_)) | ((with_reducible refine Knd.nilCheck ?_); (refine Exec.stab rfl (Stab.nilCheck rfl) rfl ?_)) | (refine xdQ (z := ?_)) | (refine xSQ (z := ?_)))) | (with_reducible first | apply Tr.next | apply Tr.region | apply Tr.nil | apply Tr.in_normal)))
    refine Tr.again (6, [h0, h1, h2, h3, h4, a, h6], l2, A2, c2, M') ⟨by omega, rfl, hm1.trans hm, hl2, hs2, pre ++ [w], by rw [hpre, List.append_assoc]; rfl, by rw [List.length_append, hpl]; rfl, many_app1 hmany ha⟩ (by simp only; omega) hsQ
  · (repeat (first | ((with_reducible refine Tr.step rfl ?_); (first | (refine xmQ (z := ?_)) | (refine xaQ (z := ?_)) | (refine xlQ (z := ?_)) | (refine xiQ (z := ?_)) | ((with_reducible refine Knd.indexAddr ?_); (refine Exec.stab rfl (Stab.indexB0 rfl rfl (tysOk.get rfl) rfl (tysOk.get rfl) rfl (by omega) (by omega)) rfl ?_)))) | (with_reducible first | apply Tr.next | apply Tr.seq | apply Tr.region | apply Tr.nil | apply Tr.skip | apply Tr.block) | (refine Tr.cond_t rfl (by first | (with_reducible assumption) | omega) ?_)))
    ((refine Tr.step rfl ?_))
    refine Exec.callP (A := [box bq 101 [.slice A1 l'.length c1']]) rfl (number_rd M1 bq l' _ ⟨A1, c1', rfl, hl1, hs1⟩) (List.Perm.swap _ _ _) rfl (fun r M' A' hm hR => ?_) (fun ch M' A' hm hR => ?_)
    rotate_left
    · obtain ⟨⟨rfl, rfl⟩, hno⟩ := hR
      cases l' with
      | nil => exact absurd hll (by simp)
      | cons w l' =>
      have e : msgO k v = none := msgO_pre (by rw [hpre, List.take_append]; exact List.mem_append_right _ (by rw [hpl]; simp)) (hno w l' rfl)
      rw [e]
      (repeat (first | (with_reducible first | apply Tr.then_panic | apply Tr.in_panic)))
      refine Tr.less [(5, .pointer (some ⟨b5, 0, none⟩)), (4, .pointer (some ⟨b4, 0, none⟩))] (box b5 31 [.int .i64 0] :: box b4 27 (.int .i64 k :: .int .i64 h0 :: .int .i64 h1 :: .int .i64 h2 :: .int .i64 h3 :: .int .i64 h4 :: .int .i64 h5 :: .int .i64 h6 :: .slice none 0 0 :: .slice none 0 0 :: .slice none 0 0 :: byteV (List.replicate 32 0)) :: box b3 53 [.int .i64 v.k, .int .i64 v.n, .string ⟨v.s.toArray⟩, .slice A0 v.l.length c0] :: ([] ++ F)) (by repeat (first | exact SubFr.nil | refine SubFr.cons rfl ?_)) (by repeat (first | exact DropL.refl | apply DropL.skip)) ?_
      exact msg_fail hcl (hm1.trans hm) ⟨rfl, rfl⟩
    obtain ⟨-, w, l2, a, rfl, ha, rfl, x', rfl, A2, c2, rfl, hl2, hs2⟩ := hR
    refine ftQ (r := box b33 102 [.pointer (some ⟨b4, 1, none⟩), .pointer (some ⟨b4, 2, none⟩), .pointer (some ⟨b4, 3, none⟩), .pointer (some ⟨b4, 4, none⟩), .pointer (some ⟨b4, 5, none⟩), .pointer (some ⟨b4, 6, none⟩), .pointer (some ⟨b4, 7, none⟩)]) (k := ?_)
    (repeat (first | ((with_reducible refine Tr.step rfl ?_); (first | (refine xmQ (z := ?_)) | ((with_reducible refine Knd.nilCheck ?_); (refine Exec.stab rfl (Stab.nilCheck rfl) rfl ?_)) | (refine xdQ (z := ?_)) | (refine xSQ (z := ?_)))) | (with_reducible first | apply Tr.next | apply Tr.region | apply Tr.nil | apply Tr.in_normal)))
    refine Tr.again (7, [h0, h1, h2, h3, h4, h5, a], l2, A2, c2, M') ⟨by omega, rfl, hm1.trans hm, hl2, hs2, pre ++ [w], by rw [hpre, List.append_assoc]; rfl, by rw [List.length_append, hpl]; rfl, many_app1 hmany ha⟩ (by simp only; omega) hsQ
  obtain ⟨va, vb, vc, vd, rfl⟩ : ∃ a b c d, l' = [a, b, c, d] := by
    match l', hll with
    | [a, b, c, d], _ => exact ⟨a, b, c, d, rfl⟩
  have hmsg := msgO_of (k := k) hk3 hpre hpl
  rw [hmany] at hmsg
  (repeat (first | ((with_reducible refine Tr.step rfl ?_); (first | (refine xmQ (z := ?_)) | (refine xiQ (z := ?_)))) | (with_reducible first | apply Tr.next | apply Tr.seq | apply Tr.region | apply Tr.nil | apply Tr.exit | apply Tr.then_exit) | ((with_reducible refine Tr.in_exit ?_ ?_); (exact rfl)) | (refine Tr.cond_f rfl (by first | (with_reducible assumption) | omega) ?_)))
  refine Tr.less [(6, .pointer (some ⟨bq, 0, none⟩)), (5, .pointer (some ⟨b5, 0, none⟩)), (4, .pointer (some ⟨b4, 0, none⟩)), (44, .pointer (some ⟨bq, 0, none⟩))] (box bq 101 [.slice A1 [va, vb, vc, vd].length c1'] :: box b5 31 [.int .i64 0] :: box b4 27 (.int .i64 k :: .int .i64 h0 :: .int .i64 h1 :: .int .i64 h2 :: .int .i64 h3 :: .int .i64 h4 :: .int .i64 h5 :: .int .i64 h6 :: .slice none 0 0 :: .slice none 0 0 :: .slice none 0 0 :: byteV (List.replicate 32 0)) :: box b3 53 [.int .i64 v.k, .int .i64 v.n, .string ⟨v.s.toArray⟩, .slice A0 v.l.length c0] :: ([] ++ F)) (by repeat (first | exact SubFr.nil | refine SubFr.cons rfl ?_)) (by repeat (first | exact DropL.refl | apply DropL.skip)) ?_
  ((refine Tr.step rfl ?_))
  refine Exec.callP (A := [box bq 101 [.slice A1 [va, vb, vc, vd].length c1']]) rfl (numbers_rd M1 bq [va, vb, vc, vd] _ ⟨A1, c1', rfl, hl1, hs1⟩) (List.Perm.refl _) rfl (fun r M2 A' hm2 hR => ?_) (fun ch M2 A' hm2 hR => ?_)
  rotate_left
  · obtain ⟨⟨rfl, rfl⟩, hno⟩ := hR
    rw [hno va _ rfl] at hmsg
    rw [show msgO k v = none from hmsg]
    (repeat ((with_reducible refine Tr.then_panic ?_)))
    have hcl : ((.int .i64 k :: .int .i64 h0 :: .int .i64 h1 :: .int .i64 h2 :: .int .i64 h3 :: .int .i64 h4 :: .int .i64 h5 :: .int .i64 h6 :: .slice none 0 0 :: .slice none 0 0 :: .slice none 0 0 :: byteV (List.replicate 32 0)) : List Value).length = 43 := by simp only [List.length_cons, zSl]
    refine Tr.less [(5, .pointer (some ⟨b5, 0, none⟩)), (4, .pointer (some ⟨b4, 0, none⟩))] (box b5 31 [.int .i64 0] :: box b4 27 (.int .i64 k :: .int .i64 h0 :: .int .i64 h1 :: .int .i64 h2 :: .int .i64 h3 :: .int .i64 h4 :: .int .i64 h5 :: .int .i64 h6 :: .slice none 0 0 :: .slice none 0 0 :: .slice none 0 0 :: byteV (List.replicate 32 0)) :: box b3 53 [.int .i64 v.k, .int .i64 v.n, .string ⟨v.s.toArray⟩, .slice A0 v.l.length c0] :: ([] ++ F)) (by repeat (first | exact SubFr.nil | refine SubFr.cons rfl ?_)) (by repeat (first | exact DropL.refl | apply DropL.skip)) ?_
    exact msg_fail hcl (hm1.trans hm2) ⟨rfl, rfl⟩
  obtain ⟨-, w, l2, o1, hw, ho1, ⟨B1, k1, rfl, hS1⟩, x1, rfl, hx1⟩ := hR
  cases hw
  rw [ho1] at hmsg
  have hm02 := hm1.trans hm2
  (repeat (((with_reducible refine Tr.step rfl ?_); (with_reducible refine Knd.move ?_); (refine xmQ (z := ?_)))))
  ((refine Tr.step rfl ?_))
  refine Exec.callP (A := [x1]) rfl (numbers_rd M2 bq [vb, vc, vd] _ hx1) (List.Perm.refl _) rfl (fun r M3 A' hm3 hR => ?_) (fun ch M3 A' hm3 hR => ?_)
  rotate_left
  · obtain ⟨⟨rfl, rfl⟩, hno⟩ := hR
    rw [hno vb _ rfl] at hmsg
    rw [show msgO k v = none from hmsg]
    (repeat ((with_reducible refine Tr.then_panic ?_)))
    have hcl : ((.int .i64 k :: .int .i64 h0 :: .int .i64 h1 :: .int .i64 h2 :: .int .i64 h3 :: .int .i64 h4 :: .int .i64 h5 :: .int .i64 h6 :: .slice none 0 0 :: .slice none 0 0 :: .slice none 0 0 :: byteV (List.replicate 32 0)) : List Value).length = 43 := by simp only [List.length_cons, zSl]
    refine Tr.less [(5, .pointer (some ⟨b5, 0, none⟩)), (4, .pointer (some ⟨b4, 0, none⟩))] (box b5 31 [.int .i64 0] :: box b4 27 (.int .i64 k :: .int .i64 h0 :: .int .i64 h1 :: .int .i64 h2 :: .int .i64 h3 :: .int .i64 h4 :: .int .i64 h5 :: .int .i64 h6 :: .slice none 0 0 :: .slice none 0 0 :: .slice none 0 0 :: byteV (List.replicate 32 0)) :: box b3 53 [.int .i64 v.k, .int .i64 v.n, .string ⟨v.s.toArray⟩, .slice A0 v.l.length c0] :: ([] ++ F)) (by repeat (first | exact SubFr.nil | refine SubFr.cons rfl ?_)) (by repeat (first | exact DropL.refl | apply DropL.skip)) ?_
    exact msg_fail hcl (hm02.trans hm3) ⟨rfl, rfl⟩
  obtain ⟨-, w, l2, o2, hw, ho2, ⟨B2, k2, rfl, hS2⟩, x2, rfl, hx2⟩ := hR
  cases hw
  rw [ho2] at hmsg
  have hm03 := hm02.trans hm3
  (repeat (first | ((with_reducible refine Tr.step rfl ?_); (first | (refine xmQ (z := ?_)) | (refine xfQ (z := ?_)) | (refine xSQ (z := ?_)))) | (with_reducible first | apply Tr.next | apply Tr.seq | apply Tr.region | apply Tr.nil)))
  ((refine Tr.step rfl ?_))
  refine Exec.callP (A := [x2]) rfl (list_rd M3 bq [vc, vd] _ hx2) (List.Perm.refl _) rfl (fun r M4 A' hm4 hR => ?_) (fun ch M4 A' hm4 hR => ?_)
  rotate_left
  · obtain ⟨⟨rfl, rfl⟩, hno⟩ := hR
    rw [show lO relO vc = none by rw [lO, if_neg (hno vc _ rfl)]] at hmsg
    rw [show msgO k v = none from hmsg]
    (repeat ((with_reducible refine Tr.then_panic ?_)))
    have hcl : ((.int .i64 k :: .int .i64 h0 :: .int .i64 h1 :: .int .i64 h2 :: .int .i64 h3 :: .int .i64 h4 :: .int .i64 h5 :: .int .i64 h6 :: .slice B1 o1.length k1 :: .slice B2 o2.length k2 :: .slice none 0 0 :: byteV (List.replicate 32 0)) : List Value).length = 43 := by simp only [List.length_cons, zSl]
    refine Tr.less [(5, .pointer (some ⟨b5, 0, none⟩)), (4, .pointer (some ⟨b4, 0, none⟩))] (box b5 31 [.int .i64 0] :: box b4 27 (.int .i64 k :: .int .i64 h0 :: .int .i64 h1 :: .int .i64 h2 :: .int .i64 h3 :: .int .i64 h4 :: .int .i64 h5 :: .int .i64 h6 :: .slice B1 o1.length k1 :: .slice B2 o2.length k2 :: .slice none 0 0 :: byteV (List.replicate 32 0)) :: box b3 53 [.int .i64 v.k, .int .i64 v.n, .string ⟨v.s.toArray⟩, .slice A0 v.l.length c0] :: ([] ++ F)) (by repeat (first | exact SubFr.nil | refine SubFr.cons rfl ?_)) (by repeat (first | exact DropL.refl | apply DropL.skip)) ?_
    exact msg_fail hcl (hm03.trans hm4) ⟨rfl, rfl⟩
  obtain ⟨rfl, w, l2, bq2, hw, hkc, rfl, x3, y3, rfl, hx3, hy3⟩ := hR
  cases hw
  rw [show lO relO vc = manyO relO vc.l by rw [lO, if_pos hkc]] at hmsg
  (skip)
  ((refine Tr.step rfl ?_))
  refine Exec.callP (A := [y3]) rfl (allR M3 bq2 vc.l _ hy3) (List.Perm.refl _) rfl (fun r M5 A' hm5 hR => ?_) (fun ch M5 A' hm5 hR => ?_)
  rotate_left
  · obtain ⟨⟨rfl, rfl⟩, hno⟩ := hR
    rw [hno] at hmsg
    rw [show msgO k v = none from hmsg]
    (repeat ((with_reducible refine Tr.then_panic ?_)))
    have hcl : ((.int .i64 k :: .int .i64 h0 :: .int .i64 h1 :: .int .i64 h2 :: .int .i64 h3 :: .int .i64 h4 :: .int .i64 h5 :: .int .i64 h6 :: .slice B1 o1.length k1 :: .slice B2 o2.length k2 :: .slice none 0 0 :: byteV (List.replicate 32 0)) : List Value).length = 43 := by simp only [List.length_cons, zSl]
    refine Tr.less [(5, .pointer (some ⟨b5, 0, none⟩)), (4, .pointer (some ⟨b4, 0, none⟩))] (box b5 31 [.int .i64 0] :: box b4 27 (.int .i64 k :: .int .i64 h0 :: .int .i64 h1 :: .int .i64 h2 :: .int .i64 h3 :: .int .i64 h4 :: .int .i64 h5 :: .int .i64 h6 :: .slice B1 o1.length k1 :: .slice B2 o2.length k2 :: .slice none 0 0 :: byteV (List.replicate 32 0)) :: box b3 53 [.int .i64 v.k, .int .i64 v.n, .string ⟨v.s.toArray⟩, .slice A0 v.l.length c0] :: ([] ++ F)) (by repeat (first | exact SubFr.nil | refine SubFr.cons rfl ?_)) (by repeat (first | exact DropL.refl | apply DropL.skip)) ?_
    exact msg_fail hcl (hm03.trans hm5) ⟨rfl, rfl⟩
  obtain ⟨-, rfl, zs, B3, k3, hzs, rfl, hS3⟩ := hR
  rw [hzs] at hmsg
  have hm05 := hm03.trans hm5
  (repeat (first | ((with_reducible refine Tr.step rfl ?_); (first | (refine xmQ (z := ?_)) | (refine xfQ (z := ?_)) | (refine xSQ (z := ?_)))) | (with_reducible first | apply Tr.next | apply Tr.seq | apply Tr.region | apply Tr.nil)))
  ((refine Tr.step rfl ?_))
  refine Exec.callP (A := [x3]) rfl (seal_rd M5 bq [vd] _ (hx3.mono hm5)) (List.Perm.refl _) rfl (fun r M6 A' hm6 hR => ?_) (fun ch M6 A' hm6 hR => ?_)
  rotate_left
  · obtain ⟨⟨rfl, rfl⟩, hno⟩ := hR
    rw [hno vd _ rfl] at hmsg
    rw [show msgO k v = none from hmsg]
    (repeat ((with_reducible refine Tr.then_panic ?_)))
    have hcl : ((.int .i64 k :: .int .i64 h0 :: .int .i64 h1 :: .int .i64 h2 :: .int .i64 h3 :: .int .i64 h4 :: .int .i64 h5 :: .int .i64 h6 :: .slice B1 o1.length k1 :: .slice B2 o2.length k2 :: .slice B3 zs.length k3 :: byteV (List.replicate 32 0)) : List Value).length = 43 := by simp only [List.length_cons, zSl]
    refine Tr.less [(5, .pointer (some ⟨b5, 0, none⟩)), (4, .pointer (some ⟨b4, 0, none⟩))] (box b5 31 [.int .i64 0] :: box b4 27 (.int .i64 k :: .int .i64 h0 :: .int .i64 h1 :: .int .i64 h2 :: .int .i64 h3 :: .int .i64 h4 :: .int .i64 h5 :: .int .i64 h6 :: .slice B1 o1.length k1 :: .slice B2 o2.length k2 :: .slice B3 zs.length k3 :: byteV (List.replicate 32 0)) :: box b3 53 [.int .i64 v.k, .int .i64 v.n, .string ⟨v.s.toArray⟩, .slice A0 v.l.length c0] :: ([] ++ F)) (by repeat (first | exact SubFr.nil | refine SubFr.cons rfl ?_)) (by repeat (first | exact DropL.refl | apply DropL.skip)) ?_
    exact msg_fail hcl (hm05.trans hm6) ⟨rfl, rfl⟩
  obtain ⟨-, w, l2, s, hw, hse, rfl, x4, rfl, hx4⟩ := hR
  cases hw
  rw [hse] at hmsg
  have hm06 := hm05.trans hm6
  replace hmsg : msgO k v = some ⟨k, [h0, h1, h2, h3, h4, h5, h6], o1, o2, zs, s⟩ := hmsg
  obtain ⟨i1, -, i3, i4⟩ := msgO_inv hf hmsg
  have hsl : (byteV s).length = 32 := by simpa using i3
  (repeat (((with_reducible refine Tr.step rfl ?_); (with_reducible refine Knd.fieldAddr ?_); (refine xfQ (z := ?_)))))
  refine Tr.step rfl ?_
  refine Exec.storeP (vs := byteV s) (cs := (.int .i64 k :: .int .i64 h0 :: .int .i64 h1 :: .int .i64 h2 :: .int .i64 h3 :: .int .i64 h4 :: .int .i64 h5 :: .int .i64 h6 :: .slice B1 o1.length k1 :: .slice B2 o2.length k2 :: .slice B3 zs.length k3 :: byteV (List.replicate 32 0))) rfl rfl (tysOk.get rfl) (by repeat (first | exact Upd.here | apply Upd.there)) hsl (by simp only [List.length_cons, zSl, hsl]; decide) (by rw [List.all_eq_true]; exact byteV_one s) ?_
  refine Tr.cells (b := b4) (cs' := (.int .i64 k :: .int .i64 h0 :: .int .i64 h1 :: .int .i64 h2 :: .int .i64 h3 :: .int .i64 h4 :: .int .i64 h5 :: .int .i64 h6 :: .slice B1 o1.length k1 :: .slice B2 o2.length k2 :: .slice B3 zs.length k3 :: byteV s)) (by repeat (first | exact Upd.here | apply Upd.there)) (by rw [hsl, show List.drop (11 + 32) (.int .i64 k :: .int .i64 h0 :: .int .i64 h1 :: .int .i64 h2 :: .int .i64 h3 :: .int .i64 h4 :: .int .i64 h5 :: .int .i64 h6 :: .slice B1 o1.length k1 :: .slice B2 o2.length k2 :: .slice B3 zs.length k3 :: byteV (List.replicate 32 0)) = [] from List.drop_eq_nil_of_le (by simp only [List.length_cons, zSl]; decide), List.append_nil]; rfl) ?_
  (repeat (first | ((with_reducible refine Tr.step rfl ?_); (with_reducible refine Knd.move ?_); (refine xmQ (z := ?_))) | (with_reducible first | apply Tr.next | apply Tr.seq | apply Tr.region | apply Tr.nil)))
  ((refine Tr.step rfl ?_))
  refine Exec.callP (A := [x4]) rfl (end_rd M6 bq [] _ hx4) (List.Perm.refl _) rfl (fun r M7 A' hm7 hR => ?_) (fun ch M7 A' hm7 hR => ?_)
  rotate_left
  · exact absurd rfl hR.2
  obtain ⟨rfl, -, rfl⟩ := hR
  have hcl4 : ((.int .i64 k :: .int .i64 h0 :: .int .i64 h1 :: .int .i64 h2 :: .int .i64 h3 :: .int .i64 h4 :: .int .i64 h5 :: .int .i64 h6 :: .slice B1 o1.length k1 :: .slice B2 o2.length k2 :: .slice B3 zs.length k3 :: byteV s) : List Value).length = 43 := by simp only [List.length_cons, hsl]
  (repeat (first | ((with_reducible refine Tr.step rfl ?_); (first | ((with_reducible refine Knd.load ?_); (refine Exec.stab rfl (Stab.loadW rfl (tysOk.get rfl) rfl (by repeat (first | exact Has.here | apply Has.there)) (by assumption)) rfl ?_)) | ((with_reducible refine Knd.store ?_); (first | (refine xSQ (z := ?_)) | (refine Exec.storeW rfl rfl (tysOk.get rfl) (by repeat (first | exact Upd.here | apply Upd.there)) (by first | rfl | assumption) (by first | rfl | assumption) (by exact (by repeat (first | exact AllOne.bytes _ | refine AllOne.cons (by first | rfl | assumption) ?_))) ?_))))) | (with_reducible first | apply Tr.next | apply Tr.seq | apply Tr.region | apply Tr.nil | apply Tr.ret)))
  refine Tr.doneD (vs0 := []) (cap := [.pointer (some ⟨b4, 0, none⟩), .pointer (some ⟨b5, 0, none⟩)]) (A := []) (by first | exact .inl rfl | exact .inr rfl) (rec_idle47 M6 b4 b5 []) (List.Perm.refl _) rfl ?_
  rintro u' M'' A'' hm' ⟨rfl, rfl, rfl⟩
  refine ⟨rfl, _, (by repeat (first | exact RVs.nil | (apply RVs.cons; (first | exact RV.cellW (by rfl) (tysOk.get (by rfl)) (by rfl) (by repeat (first | exact Has.here | apply Has.there)) (by first | rfl | assumption) | exact RV.cell (by rfl) (tysOk.get (by rfl)) (by rfl) (by repeat (first | exact Has.here | apply Has.there)))))), hm06, [x4, box b5 31 [.int .i64 0], box b4 27 (.int .i64 k :: .int .i64 h0 :: .int .i64 h1 :: .int .i64 h2 :: .int .i64 h3 :: .int .i64 h4 :: .int .i64 h5 :: .int .i64 h6 :: .slice B1 o1.length k1 :: .slice B2 o2.length k2 :: .slice B3 zs.length k3 :: byteV s), box b3 53 _], [], List.Perm.refl _, rfl, ?_⟩
  rw [hmsg]
  exact ⟨_, rfl, ⟨h0, h1, h2, h3, h4, h5, h6, B1, k1, B2, k2, B3, k3, rfl, rfl, hS1.mono RI.mono (hm3.trans (hm5.trans hm6)), hS2.mono RI.mono (hm5.trans hm6), hS3.mono RRel.mono hm6⟩, ⟨i3, i4, by rw [i1]; exact hO⟩, hk64⟩
end Go.Proofs.YtghjhdbmkilakaaGreatDoor

/-
  Frames: the contract of Unpack.
  Conditions: none.
-/
namespace Go.Proofs.YtghjhdbmkilakaaGreatDoor
open Go Bf
attribute [local irreducible] Tr Exec Stab HasTy Go.Addr.add IntKind.wrap
set_option maxHeartbeats 8000000 in
theorem unpack_fn (M : Mem) (hK : Tab M) (A : Option Addr) (c : Nat) (bs : List UInt8) (hb : BSl M (.slice A bs.length c) bs) :
    Fn0 Tryz.prog 8 [.slice A bs.length c] M (fun r M' => RMsgE M' r (unpackF TF bs)) := by
  have hlen := hb.len_le
  refine Fn.intro Tryz.func8 rfl rfl Tryz.ntmps8 rfl fun E F => ?_
  (repeat (first | ((with_reducible refine Tr.step rfl ?_); (first | (refine xmQ (z := ?_)) | (refine xaQ (z := ?_)) | ((with_reducible refine Knd.alloc ?_); (refine Exec.alloc (tysOk.get rfl) rfl rfl (fun b => ?_))))) | (with_reducible first | apply Tr.next | apply Tr.seq | apply Tr.region | apply Tr.nil)))
  generalize b = b2
  have hz : (zMsg : List Value).length = 43 := by simp only [zMsg, List.length_cons, zSl]
  refine Tr.cells (b := b2) (cs' := zMsg) (by repeat (first | exact Upd.here | apply Upd.there)) (by kernel_rfl) ?_
  ((refine Tr.step rfl ?_)); refine Exec.call0 rfl (first_fn M hK A c bs hb) rfl ?_
  intro r M1 hm1 hR
  cases hf : firstF TF bs with
  | none =>
    have e : unpackF TF bs = none := by rw [unpackF, hf]
    rw [hf] at hR
    obtain rfl := hR
    rw [e]
    (repeat (first | ((with_reducible refine Tr.step rfl ?_); (first | (refine xmQ (z := ?_)) | (refine xaQ (z := ?_)) | ((with_reducible refine Knd.pick ?_); (refine Exec.stab rfl (Stab.pick_t rfl (by first | (with_reducible rfl) | (with_reducible assumption) | (with_reducible exact Bool.not_true) | (with_reducible exact Bool.not_false)) rfl) rfl ?_)) | ((with_reducible refine Knd.unOp ?_); (refine Exec.stab rfl (Stab.not rfl) rfl ?_)) | ((with_reducible refine Knd.store ?_); (refine Exec.storeW rfl rfl (tysOk.get rfl) (by repeat (first | exact Upd.here | apply Upd.there)) rfl rfl (by repeat (first | exact AllOne.nil | exact AllOne.bytes _ | refine AllOne.cons (by first | rfl | assumption) ?_)) ?_)) | ((with_reducible refine Knd.alloc ?_); (refine Exec.alloc (tysOk.get rfl) rfl rfl (fun b => ?_))) | ((with_reducible refine Knd.extract ?_); (refine Exec.stab rfl (Stab.extract rfl rfl) rfl ?_)) | ((with_reducible refine Knd.build ?_); (refine Exec.stab rfl (Stab.build tysOk rfl rfl rfl rfl (by repeat (first | exact BuildP.nil | ((apply BuildP.one); (rfl); (rfl); (first | rfl | assumption); (repeat (first | exact SetL.z | apply SetL.s))) | ((apply BuildP.many); (rfl); (rfl); (rfl); (rfl); (repeat (first | exact PutL.nil | ((apply PutL.cons); (repeat (first | exact SetL.z | apply SetL.s))))))))) rfl ?_)))) | (with_reducible first | apply Tr.next | apply Tr.seq | apply Tr.region | apply Tr.nil) | (refine Tr.guard_s0 rfl rfl rfl (by first | (with_reducible rfl) | (with_reducible assumption) | (with_reducible exact Bool.not_true) | (with_reducible exact Bool.not_false)) rfl rfl ?_) | (with_reducible first | apply Tr.ret | apply Tr.then_ret) | (refine Tr.cond_bt rfl (by first | (with_reducible rfl) | (with_reducible assumption) | (with_reducible exact Bool.not_true) | (with_reducible exact Bool.not_false)) ?_)))
    (refine Tr.done (by first | exact .inl rfl | exact .inr rfl) rfl (by repeat (first | exact RVs.nil | (apply RVs.cons; (first | exact RV.tmp rfl | exact RV.cellW (by rfl) (tysOk.get (by rfl)) (by rfl) (by repeat (first | exact Has.here | apply Has.there)) (by first | rfl | assumption))))) (by first | exact Mem.le.refl _ | assumption) (by exact ⟨[_, _], rfl⟩) ⟨rfl, ?_⟩)
    exact rfl
  | some x =>
    obtain ⟨f, n⟩ := x
    rw [hf] at hR
    obtain ⟨A1, c1, rfl, hB⟩ := hR
    obtain ⟨o1, o2, o3, -⟩ := first_some hf
    have hfl := o1.2
    by_cases hn : (n : Int) ≠ (bs.length : Int)
    · have e : unpackF TF bs = none := by rw [unpackF, hf]; simp only; rw [if_neg (by omega)]
      rw [e]
      (repeat (first | ((with_reducible refine Tr.step rfl ?_); (first | (refine xmQ (z := ?_)) | (refine xaQ (z := ?_)) | ((with_reducible refine Knd.pick ?_); (refine Exec.stab rfl (Stab.pick_f rfl (by first | (with_reducible rfl) | (with_reducible assumption) | (with_reducible exact Bool.not_true) | (with_reducible exact Bool.not_false)) rfl) rfl ?_)) | ((with_reducible refine Knd.unOp ?_); (refine Exec.stab rfl (Stab.not rfl) rfl ?_)) | ((with_reducible refine Knd.store ?_); (refine Exec.storeW rfl rfl (tysOk.get rfl) (by repeat (first | exact Upd.here | apply Upd.there)) rfl rfl (by repeat (first | exact AllOne.nil | exact AllOne.bytes _ | refine AllOne.cons (by first | rfl | assumption) ?_)) ?_)) | ((with_reducible refine Knd.alloc ?_); (refine Exec.alloc (tysOk.get rfl) rfl rfl (fun b => ?_))) | ((with_reducible refine Knd.extract ?_); (refine Exec.stab rfl (Stab.extract rfl rfl) rfl ?_)) | ((with_reducible refine Knd.build ?_); (refine Exec.stab rfl (Stab.build tysOk rfl rfl rfl rfl (by repeat (first | exact BuildP.nil | ((apply BuildP.one); (rfl); (rfl); (first | rfl | assumption); (repeat (first | exact SetL.z | apply SetL.s))) | ((apply BuildP.many); (rfl); (rfl); (rfl); (rfl); (repeat (first | exact PutL.nil | ((apply PutL.cons); (repeat (first | exact SetL.z | apply SetL.s))))))))) rfl ?_)))) | (with_reducible first | apply Tr.next | apply Tr.seq | apply Tr.region | apply Tr.nil) | ((refine Tr.guard_l rfl rfl rfl (by first | (with_reducible rfl) | (with_reducible assumption) | (with_reducible exact Bool.not_true) | (with_reducible exact Bool.not_false)) ?_); (first | (refine xmQ (z := ?_)) | (refine xnQ (z := ?_)) | (refine xiQ (z := ?_)))) | (with_reducible first | apply Tr.ret | apply Tr.then_ret) | (refine Tr.cond_t rfl (by first | (with_reducible assumption) | (with_reducible rfl) | (with_reducible exact (not_not_intro rfl)) | omega) ?_)))
      (refine Tr.done (by first | exact .inl rfl | exact .inr rfl) rfl (by repeat (first | exact RVs.nil | (apply RVs.cons; (first | exact RV.tmp rfl | exact RV.cellW (by rfl) (tysOk.get (by rfl)) (by rfl) (by repeat (first | exact Has.here | apply Has.there)) (by first | rfl | assumption))))) (by first | exact Mem.le.refl _ | assumption) (by exact ⟨[_, _], rfl⟩) ⟨rfl, ?_⟩)
      exact rfl
    have e : unpackF TF bs = bodyO f.kind f.body := by rw [unpackF, hf]; simp only; rw [if_pos (by omega)]
    rw [e]
    clear e
    (repeat (first | ((with_reducible refine Tr.step rfl ?_); (first | (refine xmQ (z := ?_)) | (refine xaQ (z := ?_)) | (refine xlQ (z := ?_)) | (refine xfQ (z := ?_)) | ((with_reducible refine Knd.pick ?_); (refine Exec.stab rfl (Stab.pick_f rfl (by first | (with_reducible rfl) | (with_reducible assumption) | (with_reducible exact Bool.not_true) | (with_reducible exact Bool.not_false)) rfl) rfl ?_)) | ((with_reducible refine Knd.unOp ?_); (refine Exec.stab rfl (Stab.not rfl) rfl ?_)) | ((with_reducible refine Knd.store ?_); (refine Exec.storeW rfl rfl (tysOk.get rfl) (by repeat (first | exact Upd.here | apply Upd.there)) rfl rfl (by repeat (first | exact AllOne.nil | exact AllOne.bytes _ | refine AllOne.cons (by first | rfl | assumption) ?_)) ?_)) | ((with_reducible refine Knd.alloc ?_); (refine Exec.alloc (tysOk.get rfl) rfl rfl (fun b => ?_))) | ((with_reducible refine Knd.extract ?_); (refine Exec.stab rfl (Stab.extract rfl rfl) rfl ?_)))) | (with_reducible first | apply Tr.next | apply Tr.seq | apply Tr.region | apply Tr.nil) | ((refine Tr.guard_l rfl rfl rfl (by first | (with_reducible rfl) | (with_reducible assumption) | (with_reducible exact Bool.not_true) | (with_reducible exact Bool.not_false)) ?_); (first | (refine xmQ (z := ?_)) | (refine xnQ (z := ?_)) | (refine xiQ (z := ?_)))) | (with_reducible refine Tr.skip ?_) | (refine Tr.cond_f rfl (by first | (with_reducible assumption) | (with_reducible rfl) | (with_reducible exact (not_not_intro rfl)) | omega) ?_)))
    generalize b = b4
    ((refine Tr.step rfl ?_)); refine Exec.call0 rfl (decode_fn M1 A1 c1 f.body hB (by omega)) rfl ?_
    rintro r M2 hm2 ⟨r2, rfl, hV⟩
    have hm02 := hm1.trans hm2
    obtain ⟨A2, c2, rfl, hV2, -⟩ := hV.open_
    rcases decF_cases f.body with hd | ⟨v, hd, hv, he, ho⟩
    · have e : bodyO f.kind f.body = none := by rw [bodyO, hd, if_neg (by decide)]
      rw [e]
      rw [hd] at hV2 ⊢
      (repeat (first | ((with_reducible refine Tr.step rfl ?_); (first | (refine xmQ (z := ?_)) | (refine xaQ (z := ?_)) | (refine xiQ (z := ?_)) | ((with_reducible refine Knd.store ?_); (refine Exec.storeW rfl rfl (tysOk.get rfl) (by repeat (first | exact Upd.here | apply Upd.there)) rfl rfl (by repeat (first | exact AllOne.nil | exact AllOne.bytes _ | refine AllOne.cons (by first | rfl | assumption) ?_)) ?_)) | ((with_reducible refine Knd.alloc ?_); (refine Exec.alloc (tysOk.get rfl) rfl rfl (fun b => ?_))) | ((with_reducible refine Knd.extract ?_); (refine Exec.stab rfl (Stab.extract rfl rfl) rfl ?_)) | ((with_reducible refine Knd.build ?_); (refine Exec.stab rfl (Stab.build tysOk rfl rfl rfl rfl (by repeat (first | exact BuildP.nil | ((apply BuildP.one); (rfl); (rfl); (first | rfl | assumption); (repeat (first | exact SetL.z | apply SetL.s))) | ((apply BuildP.many); (rfl); (rfl); (rfl); (rfl); (repeat (first | exact PutL.nil | ((apply PutL.cons); (repeat (first | exact SetL.z | apply SetL.s))))))))) rfl ?_)))) | (with_reducible first | apply Tr.next | apply Tr.seq | apply Tr.region | apply Tr.nil | apply Tr.ret | apply Tr.then_ret) | (refine Tr.cond_t rfl (by first | (with_reducible assumption) | (with_reducible rfl) | (with_reducible exact (not_not_intro rfl)) | omega) ?_)))
      (refine Tr.done (by first | exact .inl rfl | exact .inr rfl) rfl (by repeat (first | exact RVs.nil | (apply RVs.cons; (first | exact RV.tmp rfl | exact RV.cellW (by rfl) (tysOk.get (by rfl)) (by rfl) (by repeat (first | exact Has.here | apply Has.there)) (by first | rfl | assumption))))) (by first | exact Mem.le.refl _ | assumption) (by exact ⟨[_, _, _], rfl⟩) ⟨rfl, ?_⟩)
      exact rfl
    rw [bodyO, hd, if_pos rfl]
    rw [hd] at hV2
    simp only at hV2 ⊢
    have hk := okF_i64 o1
    (repeat (first | ((with_reducible refine Tr.step rfl ?_); (first | (refine xmQ (z := ?_)) | (refine xaQ (z := ?_)) | ((with_reducible refine Knd.load ?_); (first | (refine xlQ (z := ?_)) | (refine xwQ (z := ?_)))) | (refine xfQ (z := ?_)) | (refine xiQ (z := ?_)) | ((with_reducible refine Knd.store ?_); (refine Exec.storeW rfl rfl (tysOk.get rfl) (by repeat (first | exact Upd.here | apply Upd.there)) rfl rfl (by repeat (first | exact AllOne.nil | exact AllOne.bytes _ | refine AllOne.cons (by first | rfl | assumption) ?_)) ?_)) | ((with_reducible refine Knd.alloc ?_); (refine Exec.alloc (tysOk.get rfl) rfl rfl (fun b => ?_))) | ((with_reducible refine Knd.extract ?_); (refine Exec.stab rfl (Stab.extract rfl rfl) rfl ?_)))) | (with_reducible first | apply Tr.next | apply Tr.seq | apply Tr.region | apply Tr.nil | apply Tr.skip) | (refine Tr.cond_f rfl (by first | (with_reducible assumption) | (with_reducible rfl) | (with_reducible exact (not_not_intro rfl)) | omega) ?_)))
    ((refine Tr.step rfl ?_)); refine Exec.call0 rfl (message_fn M2 f.kind hk v _ hV2 (chk_zero.1 hv).1 (by rw [he]; omega)) rfl ?_
    intro r M3 hm3 hR
    have hm03 := hm02.trans hm3
    cases hm : msgO f.kind v with
    | none =>
      rw [hm] at hR
      obtain rfl := hR
      (repeat (first | ((with_reducible refine Tr.step rfl ?_); (first | (refine xmQ (z := ?_)) | (refine xaQ (z := ?_)) | (refine xiQ (z := ?_)) | ((with_reducible refine Knd.pick ?_); (refine Exec.stab rfl (Stab.pick_td rfl (by first | (with_reducible assumption) | (with_reducible rfl) | (with_reducible exact (not_not_intro rfl)) | omega) rfl) rfl ?_)) | ((with_reducible refine Knd.store ?_); (refine Exec.storeW rfl rfl (tysOk.get rfl) (by repeat (first | exact Upd.here | apply Upd.there)) rfl rfl (by repeat (first | exact AllOne.nil | exact AllOne.bytes _ | refine AllOne.cons (by first | rfl | assumption) ?_)) ?_)) | ((with_reducible refine Knd.extract ?_); (refine Exec.stab rfl (Stab.extract rfl rfl) rfl ?_)) | ((with_reducible refine Knd.build ?_); (refine Exec.stab rfl (Stab.build tysOk rfl rfl rfl rfl (by repeat (first | exact BuildP.nil | ((apply BuildP.one); (rfl); (rfl); (first | rfl | assumption); (repeat (first | exact SetL.z | apply SetL.s))) | ((apply BuildP.many); (rfl); (rfl); (rfl); (rfl); (repeat (first | exact PutL.nil | ((apply PutL.cons); (repeat (first | exact SetL.z | apply SetL.s))))))))) rfl ?_)))) | (with_reducible first | apply Tr.next | apply Tr.seq | apply Tr.region | apply Tr.nil) | (refine Tr.guard_n' rfl rfl rfl (by first | (with_reducible assumption) | (with_reducible rfl) | (with_reducible exact (not_not_intro rfl)) | omega) rfl rfl ?_) | (with_reducible first | apply Tr.ret | apply Tr.then_ret) | (refine Tr.cond_bt rfl (by first | (with_reducible rfl) | (with_reducible assumption) | (with_reducible exact Bool.not_true) | (with_reducible exact Bool.not_false)) ?_)))
      (refine Tr.done (by first | exact .inl rfl | exact .inr rfl) rfl (by repeat (first | exact RVs.nil | (apply RVs.cons; (first | exact RV.tmp rfl | exact RV.cellW (by rfl) (tysOk.get (by rfl)) (by rfl) (by repeat (first | exact Has.here | apply Has.there)) (by first | rfl | assumption))))) (by first | exact Mem.le.refl _ | assumption) (by exact ⟨[_, _, _], rfl⟩) ⟨rfl, ?_⟩)
      exact rfl
    | some m =>
      rw [hm] at hR
      obtain ⟨cs, rfl, hRM⟩ := hR
      have hRM0 := hRM
      obtain ⟨⟨h0, h1, h2, h3, h4, h5, h6, A3, c3, B3, d3, C3, e3, pe, rfl, p1, p2, p3⟩, pw, -⟩ := hRM0
      have psl2 : (byteV m.sl).length = 32 := by simpa using pw.1
      have hcl : (Value.int .i64 m.kind :: .int .i64 h0 :: .int .i64 h1 :: .int .i64 h2 :: .int .i64 h3 :: .int .i64 h4 :: .int .i64 h5 :: .int .i64 h6 :: .slice A3 m.labels.length c3 :: .slice B3 m.verdicts.length d3 :: .slice C3 m.rels.length e3 :: byteV m.sl).length = 43 := by simp only [List.length_cons, psl2]
      simp only
      (repeat (first | ((with_reducible refine Tr.step rfl ?_); (first | (refine xmQ (z := ?_)) | (refine xaQ (z := ?_)) | (refine xiQ (z := ?_)) | ((with_reducible refine Knd.store ?_); (refine Exec.storeW rfl rfl (tysOk.get rfl) (by repeat (first | exact Upd.here | apply Upd.there)) (by first | rfl | assumption) (by first | rfl | assumption) (by first | exact AllOne.bytes _ | exact AllOne.words _ | exact (by repeat (first | exact AllOne.nil | exact AllOne.bytes _ | refine AllOne.cons (by first | rfl | assumption) ?_))) ?_)) | ((with_reducible refine Knd.extract ?_); (refine Exec.stab rfl (Stab.extract rfl rfl) rfl ?_)))) | (with_reducible first | apply Tr.next | apply Tr.seq | apply Tr.region | apply Tr.nil) | ((refine Tr.guard_y' rfl rfl rfl (by first | (with_reducible assumption) | (with_reducible rfl) | (with_reducible exact (not_not_intro rfl)) | omega) ?_); (with_reducible refine Knd.load ?_); (refine Exec.stab rfl (Stab.loadW rfl (tysOk.get rfl) rfl (by repeat (first | exact Has.here | apply Has.there)) (by assumption)) rfl ?_))))
      ((refine Tr.guard_y' rfl rfl rfl (by first | (with_reducible assumption) | (with_reducible rfl) | (with_reducible exact (not_not_intro rfl)) | omega) ?_)); refine Exec.call0 rfl (right_fn M3 m _ hRM) rfl ?_
      rintro _ _ _ ⟨rfl, rfl⟩
      by_cases hr : rightM m
      · rw [decide_eq_true hr, if_pos hr]
        (repeat (first | ((with_reducible refine Tr.step rfl ?_); (first | (refine xaQ (z := ?_)) | ((with_reducible refine Knd.load ?_); (refine Exec.stab rfl (Stab.loadW rfl (tysOk.get rfl) rfl (by repeat (first | exact Has.here | apply Has.there)) (by assumption)) rfl ?_)) | ((with_reducible refine Knd.pick ?_); (refine Exec.stab rfl (Stab.pick_fd rfl (by first | (with_reducible assumption) | (with_reducible rfl) | (with_reducible exact (not_not_intro rfl)) | omega) rfl) rfl ?_)) | ((with_reducible refine Knd.store ?_); (refine Exec.storeW rfl rfl (tysOk.get rfl) (by repeat (first | exact Upd.here | apply Upd.there)) (by first | rfl | assumption) (by first | rfl | assumption) (by first | exact AllOne.bytes _ | exact AllOne.words _ | exact (by repeat (first | exact AllOne.nil | exact AllOne.bytes _ | refine AllOne.cons (by first | rfl | assumption) ?_))) ?_)))) | (with_reducible first | apply Tr.next | apply Tr.seq | apply Tr.region | apply Tr.nil) | ((refine Tr.guard_y' rfl rfl rfl (by first | (with_reducible assumption) | (with_reducible rfl) | (with_reducible exact (not_not_intro rfl)) | omega) ?_); (with_reducible refine Knd.unOp ?_); (refine Exec.stab rfl (Stab.not rfl) rfl ?_)) | (with_reducible first | apply Tr.skip | apply Tr.ret) | (refine Tr.cond_bf rfl (by first | (with_reducible rfl) | (with_reducible assumption) | (with_reducible exact Bool.not_true) | (with_reducible exact Bool.not_false)) ?_)))
        (refine Tr.done (by first | exact .inl rfl | exact .inr rfl) rfl (by repeat (first | exact RVs.nil | (apply RVs.cons; (first | exact RV.tmp rfl | exact RV.cellW (by rfl) (tysOk.get (by rfl)) (by rfl) (by repeat (first | exact Has.here | apply Has.there)) (by first | rfl | assumption))))) (by first | exact Mem.le.refl _ | assumption) (by exact ⟨[_, _, _], rfl⟩) ⟨rfl, ?_⟩)
        exact ⟨_, rfl, hRM⟩
      · rw [decide_eq_false hr, if_neg hr]
        (repeat (first | ((with_reducible refine Tr.step rfl ?_); (first | (refine xaQ (z := ?_)) | ((with_reducible refine Knd.pick ?_); (refine Exec.stab rfl (Stab.pick_fd rfl (by first | (with_reducible assumption) | (with_reducible rfl) | (with_reducible exact (not_not_intro rfl)) | omega) rfl) rfl ?_)) | ((with_reducible refine Knd.store ?_); (refine Exec.storeW rfl rfl (tysOk.get rfl) (by repeat (first | exact Upd.here | apply Upd.there)) (by first | rfl | assumption) (by first | rfl | assumption) (by first | exact AllOne.bytes _ | exact AllOne.words _ | exact (by repeat (first | exact AllOne.nil | exact AllOne.bytes _ | refine AllOne.cons (by first | rfl | assumption) ?_))) ?_)) | ((with_reducible refine Knd.build ?_); (refine Exec.stab rfl (Stab.build tysOk rfl rfl rfl rfl (by repeat (first | exact BuildP.nil | ((apply BuildP.one); (rfl); (rfl); (first | rfl | assumption); (repeat (first | exact SetL.z | apply SetL.s))) | ((apply BuildP.many); (rfl); (rfl); (rfl); (rfl); (repeat (first | exact PutL.nil | ((apply PutL.cons); (repeat (first | exact SetL.z | apply SetL.s))))))))) rfl ?_)))) | (with_reducible first | apply Tr.next | apply Tr.seq | apply Tr.region | apply Tr.nil) | ((refine Tr.guard_y' rfl rfl rfl (by first | (with_reducible assumption) | (with_reducible rfl) | (with_reducible exact (not_not_intro rfl)) | omega) ?_); (with_reducible refine Knd.unOp ?_); (refine Exec.stab rfl (Stab.not rfl) rfl ?_)) | (with_reducible first | apply Tr.ret | apply Tr.then_ret) | (refine Tr.cond_bt rfl (by first | (with_reducible rfl) | (with_reducible assumption) | (with_reducible exact Bool.not_true) | (with_reducible exact Bool.not_false)) ?_)))
        (refine Tr.done (by first | exact .inl rfl | exact .inr rfl) rfl (by repeat (first | exact RVs.nil | (apply RVs.cons; (first | exact RV.tmp rfl | exact RV.cellW (by rfl) (tysOk.get (by rfl)) (by rfl) (by repeat (first | exact Has.here | apply Has.there)) (by first | rfl | assumption))))) (by first | exact Mem.le.refl _ | assumption) (by exact ⟨[_, _, _], rfl⟩) ⟨rfl, ?_⟩)
        exact rfl
end Go.Proofs.YtghjhdbmkilakaaGreatDoor

/-
  Frames: messages compared by the program.
  Conditions: none.
-/
namespace Go.Proofs.YtghjhdbmkilakaaGreatDoor
open Go Bf
attribute [local irreducible] Tr Exec Stab HasTy Go.Addr.add IntKind.wrap
set_option maxHeartbeats 2000000 in
theorem sequal_fn (M : Mem) (p q : List Int) (A B : Option Addr) (c k : Nat) (hp : Ints M (.slice A p.length c) p) (hq : Ints M (.slice B q.length k) q) : Fn0 Tryz.prog 32 [.slice A p.length c, .slice B q.length k] M (fun r M' => r = .bool (decide (p = q)) ∧ M = M') := by
  have l1 := hp.len_le
  have l2 := hq.len_le
  refine Fn.intro Tryz.func32 rfl rfl Tryz.ntmps32 rfl fun E F => ?_
  by_cases hl : p.length = q.length
  rotate_left
  · rw [decide_eq_false (fun h => hl (congrArg _ h))]
    (repeat (first | ((with_reducible refine Tr.step rfl ?_); (first | (refine xmQ (z := ?_)) | (refine xaQ (z := ?_)) | (refine xnQ (z := ?_)) | (refine xiQ (z := ?_)))) | (with_reducible first | apply Tr.next | apply Tr.seq | apply Tr.region | apply Tr.nil | apply Tr.ret | apply Tr.then_ret) | (refine Tr.cond_t rfl (by first | (with_reducible assumption) | omega) ?_)))
    (refine dnQ (hL := by exact ⟨[], rfl⟩) (k := ⟨rfl, ?_⟩))
    exact ⟨rfl, rfl⟩
  (repeat (first | ((with_reducible refine Tr.step rfl ?_); (first | (refine xmQ (z := ?_)) | (refine xaQ (z := ?_)) | (refine xnQ (z := ?_)) | (refine xiQ (z := ?_)))) | (with_reducible first | apply Tr.next | apply Tr.seq | apply Tr.region | apply Tr.nil | apply Tr.skip | apply Tr.block) | (refine Tr.cond_f rfl (by omega) ?_)))
  refine Tr.loop (α := Nat) (fun i => ⟨26, [(13, .int .i64 (i : Int)), (12, .int .i64 p.length), (0, .slice A p.length c), (1, .slice B q.length k)], [], M, [] ++ F⟩) (fun i => i ≤ p.length ∧ p.take i = q.take i) (fun i => p.length - i) 0 ⟨by simp, by simp⟩ hsQ (fun i hi => ?_)
  obtain ⟨hi, heq⟩ := hi
  by_cases hlt : i < p.length
  · obtain ⟨x, hx⟩ := get_of_lt hlt
    obtain ⟨y, hy⟩ := get_of_lt (xs := q) (i := i) (by omega)
    obtain ⟨hA, hat⟩ := hp.at hx
    obtain ⟨hB, hbt⟩ := hq.at hy
    (repeat (first | ((with_reducible refine Tr.step rfl ?_); (first | (refine xmQ (z := ?_)) | (refine xaQ (z := ?_)) | (refine xiQ (z := ?_)))) | (with_reducible first | apply Tr.next | apply Tr.seq | apply Tr.region | apply Tr.nil | apply Tr.skip | apply Tr.block) | (refine Tr.cond_t rfl (by first | (with_reducible assumption) | omega) ?_)))
    (((apply Tr.draw); (kernel_rfl)); (refine tkQ 0 (hB := by exact fun _ h => h) (s := by exact Stab.move rfl) (h := ?_)); (refine tkQ 1 (s := by exact Stab.move rfl) (h := ?_)); (refine tkQ 4 (s := by exact Stab.move rfl) (h := ?_)); (refine tkQ 5 (s := by exact Stab.move rfl) (h := ?_)); (refine tkQ 2 (s := by exact sxQ) (h := ?_)); (refine tkQ 6 (s := by exact sxQ) (h := ?_)); (refine tkQ 3 (s := by exact sMQ) (h := ?_)); (refine tkQ 7 (s := by exact sMQ) (h := ?_)); (refine tkQ 8 (s := by exact siQ) (h := ?_)); (refine TrA.done (by kernel_rfl) ?_))
    by_cases hxy : x = y
    · have hn : ¬ ¬ x = y := fun h => h hxy
      (repeat (first | ((with_reducible refine Tr.step rfl ?_); (first | (refine xmQ (z := ?_)) | (refine xdQ (z := ?_)))) | (with_reducible first | apply Tr.next | apply Tr.region | apply Tr.nil | apply Tr.skip | apply Tr.in_normal) | (refine Tr.cond_f rfl (by (with_reducible assumption)) ?_)))
      refine Tr.again (i + 1) ⟨by omega, take_step hx hy heq hxy⟩ (by omega) hsQ
    · rw [decide_eq_false (ne_at hx hy hxy)]
      (repeat (first | ((with_reducible refine Tr.step rfl ?_); (with_reducible refine Knd.assign ?_); (refine xaQ (z := ?_))) | (with_reducible first | apply Tr.next | apply Tr.seq | apply Tr.region | apply Tr.nil | apply Tr.ret | apply Tr.then_ret | apply Tr.in_ret) | (refine Tr.cond_t rfl (by (with_reducible assumption)) ?_)))
      (refine dnQ (hL := by exact ⟨[], rfl⟩) (k := ⟨rfl, ?_⟩))
      exact ⟨rfl, rfl⟩
  · rw [decide_eq_true (eq_all (by omega) hl heq)]
    (repeat (first | ((with_reducible refine Tr.step rfl ?_); (first | (refine xaQ (z := ?_)) | (refine xiQ (z := ?_)))) | (with_reducible first | apply Tr.next | apply Tr.seq | apply Tr.region | apply Tr.nil | apply Tr.exit | apply Tr.ret | apply Tr.then_exit) | ((with_reducible refine Tr.in_exit ?_ ?_); (exact rfl)) | (refine Tr.cond_f rfl (by first | (with_reducible assumption) | omega) ?_)))
    (refine dnQ (hL := by exact ⟨[], rfl⟩) (k := ⟨rfl, ?_⟩))
    exact ⟨rfl, rfl⟩
set_option maxHeartbeats 2000000 in
theorem equalL_fn (M : Mem) (p q : List (List Int)) (A B : Option Addr) (c k : Nat) (hp : SlOf 1 RRowI M (.slice A p.length c) p) (hq : SlOf 1 RRowI M (.slice B q.length k) q) : Fn0 Tryz.prog 35 [.slice A p.length c, .slice B q.length k, .func (.func 32) #[] #[]] M (fun r M' => r = .bool (decide (p = q)) ∧ M = M') := by
  have l1 := hp.len_le
  have l2 := hq.len_le
  refine Fn.intro Tryz.func35 rfl rfl Tryz.ntmps35 rfl fun E F => ?_
  by_cases hl : p.length = q.length
  rotate_left
  · rw [decide_eq_false (fun h => hl (congrArg _ h))]
    (repeat (first | ((with_reducible refine Tr.step rfl ?_); (first | (refine xmQ (z := ?_)) | (refine xaQ (z := ?_)) | (refine xnQ (z := ?_)) | (refine xiQ (z := ?_)))) | (with_reducible first | apply Tr.next | apply Tr.seq | apply Tr.region | apply Tr.nil | apply Tr.ret | apply Tr.then_ret) | (refine Tr.cond_t rfl (by first | (with_reducible assumption) | omega) ?_)))
    (refine dnQ (hL := by exact ⟨[], rfl⟩) (k := ⟨rfl, ?_⟩))
    exact ⟨rfl, rfl⟩
  (repeat (first | ((with_reducible refine Tr.step rfl ?_); (first | (refine xmQ (z := ?_)) | (refine xaQ (z := ?_)) | (refine xnQ (z := ?_)) | (refine xiQ (z := ?_)))) | (with_reducible first | apply Tr.next | apply Tr.seq | apply Tr.region | apply Tr.nil | apply Tr.skip | apply Tr.block) | (refine Tr.cond_f rfl (by omega) ?_)))
  refine Tr.loop (α := Nat) (fun i => ⟨32, [(17, .int .i64 (i : Int)), (16, .int .i64 p.length), (15, .slice A p.length c), (1, .slice B q.length k), (2, .func (.func 32) #[] #[])], [], M, [] ++ F⟩) (fun i => i ≤ p.length ∧ p.take i = q.take i) (fun i => p.length - i) 0 ⟨by simp, by simp⟩ hsQ (fun i hi => ?_)
  obtain ⟨hi, heq⟩ := hi
  by_cases hlt : i < p.length
  · obtain ⟨x, hx⟩ := get_of_lt hlt
    obtain ⟨y, hy⟩ := get_of_lt (xs := q) (i := i) (by omega)
    obtain ⟨hA, ch, hat, A1, k1, rfl, hi1⟩ := hp.elem hx
    obtain ⟨hB, ch2, hbt, A2, k2, rfl, hi2⟩ := hq.elem hy
    (repeat (first | ((with_reducible refine Tr.step rfl ?_); (first | (refine xmQ (z := ?_)) | (refine xaQ (z := ?_)) | (refine xMQ (z := ?_)) | (refine xiQ (z := ?_)) | (refine xxQ (z := ?_)))) | (with_reducible first | apply Tr.next | apply Tr.seq | apply Tr.region | apply Tr.nil | apply Tr.skip | apply Tr.block) | (refine Tr.cond_t rfl (by first | (with_reducible assumption) | omega) ?_)))
    ((refine Tr.step rfl ?_))
    refine Exec.callv (A := []) (first := []) (cap := []) rfl rfl (sequal_fn M x y _ _ _ _ hi1 hi2) (List.Perm.refl _) rfl ?_
    rintro _ _ _ _ ⟨rfl, rfl, rfl⟩
    by_cases hxy : x = y
    · rw [decide_eq_true hxy]
      (repeat (first | ((with_reducible refine Tr.step rfl ?_); (first | (refine xmQ (z := ?_)) | (refine xdQ (z := ?_)) | ((with_reducible refine Knd.unOp ?_); (refine Exec.stab rfl (Stab.not rfl) rfl ?_)))) | (with_reducible first | apply Tr.next | apply Tr.region | apply Tr.nil | apply Tr.skip | apply Tr.in_normal) | (refine Tr.cond_bf rfl (by first | (with_reducible rfl) | (with_reducible exact Bool.not_true)) ?_)))
      refine Tr.again (i + 1) ⟨by omega, take_step hx hy heq hxy⟩ (by omega) hsQ
    · rw [decide_eq_false hxy, decide_eq_false (ne_at hx hy hxy)]
      (repeat (first | ((with_reducible refine Tr.step rfl ?_); (first | (refine xaQ (z := ?_)) | ((with_reducible refine Knd.unOp ?_); (refine Exec.stab rfl (Stab.not rfl) rfl ?_)))) | (with_reducible first | apply Tr.next | apply Tr.seq | apply Tr.region | apply Tr.nil | apply Tr.ret | apply Tr.then_ret | apply Tr.in_ret) | (refine Tr.cond_bt rfl (by first | (with_reducible rfl) | (with_reducible exact Bool.not_false)) ?_)))
      (refine dnQ (hL := by exact ⟨[], rfl⟩) (k := ⟨rfl, ?_⟩))
      exact ⟨rfl, rfl⟩
  · rw [decide_eq_true (eq_all (by omega) hl heq)]
    (repeat (first | ((with_reducible refine Tr.step rfl ?_); (first | (refine xaQ (z := ?_)) | (refine xiQ (z := ?_)))) | (with_reducible first | apply Tr.next | apply Tr.seq | apply Tr.region | apply Tr.nil | apply Tr.exit | apply Tr.ret | apply Tr.then_exit) | ((with_reducible refine Tr.in_exit ?_ ?_); (exact rfl)) | (refine Tr.cond_f rfl (by first | (with_reducible assumption) | omega) ?_)))
    (refine dnQ (hL := by exact ⟨[], rfl⟩) (k := ⟨rfl, ?_⟩))
    exact ⟨rfl, rfl⟩
set_option maxHeartbeats 2000000 in
theorem same2_fn (M : Mem) (p q : Rel) (u v : List Value) (hp : RRel M u p) (hq : RRel M v q) : Fn0 Tryz.prog 34 [.agg u.toArray, .agg v.toArray] M (fun r M' => r = .bool (decide (p = q)) ∧ M = M') := by
  obtain ⟨A, c, B, d, rfl, hp1, hp2⟩ := hp
  obtain ⟨A', c', B', d', rfl, hq1, hq2⟩ := hq
  refine Fn.intro Tryz.func34 rfl rfl Tryz.ntmps34 rfl fun E F => ?_
  (repeat (first | ((with_reducible refine Tr.step rfl ?_); (first | (refine xaQ (z := ?_)) | (refine xlQ (z := ?_)) | (refine xfQ (z := ?_)) | ((with_reducible refine Knd.box ?_); (refine Exec.box rfl rfl (fun b => ?_))))) | (with_reducible first | apply Tr.next | apply Tr.seq | apply Tr.region | apply Tr.nil)))
  ((refine Tr.step rfl ?_)); refine Exec.call0 rfl (sequal_fn M p.out q.out _ _ _ _ hp1 hq1) rfl ?_
  rintro _ _ _ ⟨rfl, rfl⟩
  by_cases ho : p.out = q.out
  rotate_left
  · rw [decide_eq_false (p := p = q) (fun h => ho (congrArg Rel.out h)), decide_eq_false ho]
    (repeat (first | ((with_reducible refine Tr.step rfl ?_); (first | (refine xmQ (z := ?_)) | (refine xaQ (z := ?_)) | ((with_reducible refine Knd.pick ?_); (refine Exec.stab rfl (Stab.pick_f rfl (by (with_reducible rfl)) rfl) rfl ?_)))) | (with_reducible first | apply Tr.next | apply Tr.nil) | (refine Tr.guard_s1 rfl rfl rfl (by (with_reducible rfl)) rfl rfl ?_) | (with_reducible refine Tr.ret ?_)))
    (refine dnQ (hL := by exact ⟨[_, _], rfl⟩) (k := ⟨rfl, ?_⟩))
    exact ⟨rfl, rfl⟩
  rw [decide_eq_true ho]
  (repeat (first | ((with_reducible refine Tr.step rfl ?_); (with_reducible refine Knd.move ?_); (refine xmQ (z := ?_))) | ((refine Tr.guard_l rfl rfl rfl (by (with_reducible rfl)) ?_); (first | (refine xlQ (z := ?_)) | (refine xfQ (z := ?_))))))
  ((refine Tr.guard_l rfl rfl rfl (by (with_reducible rfl)) ?_)); refine Exec.call0 rfl (equalL_fn M p.inn q.inn _ _ _ _ hp2 hq2) rfl ?_
  rintro _ _ _ ⟨rfl, rfl⟩
  (repeat (first | ((with_reducible refine Tr.step rfl ?_); (first | (refine xaQ (z := ?_)) | ((with_reducible refine Knd.pick ?_); (refine Exec.stab rfl (Stab.pick_t rfl (by (with_reducible rfl)) rfl) rfl ?_)))) | (with_reducible first | apply Tr.next | apply Tr.nil | apply Tr.ret)))
  (refine dnQ (hL := by exact ⟨[_, _], rfl⟩) (k := ⟨rfl, ?_⟩))
  refine ⟨?_, rfl⟩
  exact congrArg Value.bool (decide_eq_decide.2 ⟨fun h => by cases p; cases q; simp_all, fun h => congrArg Rel.inn h⟩)
set_option maxHeartbeats 2000000 in
theorem equalR_fn (M : Mem) (p q : List Rel) (A B : Option Addr) (c k : Nat) (hp : RRels M (.slice A p.length c) p) (hq : RRels M (.slice B q.length k) q) : Fn0 Tryz.prog 33 [.slice A p.length c, .slice B q.length k, .func (.func 34) #[] #[]] M (fun r M' => r = .bool (decide (p = q)) ∧ M = M') := by
  have l1 := hp.len_le
  have l2 := hq.len_le
  refine Fn.intro Tryz.func33 rfl rfl Tryz.ntmps33 rfl fun E F => ?_
  by_cases hl : p.length = q.length
  rotate_left
  · rw [decide_eq_false (fun h => hl (congrArg _ h))]
    (repeat (first | ((with_reducible refine Tr.step rfl ?_); (first | (refine xmQ (z := ?_)) | (refine xaQ (z := ?_)) | (refine xnQ (z := ?_)) | (refine xiQ (z := ?_)))) | (with_reducible first | apply Tr.next | apply Tr.seq | apply Tr.region | apply Tr.nil | apply Tr.ret | apply Tr.then_ret) | (refine Tr.cond_t rfl (by first | (with_reducible assumption) | omega) ?_)))
    (refine dnQ (hL := by exact ⟨[], rfl⟩) (k := ⟨rfl, ?_⟩))
    exact ⟨rfl, rfl⟩
  (repeat (first | ((with_reducible refine Tr.step rfl ?_); (first | (refine xmQ (z := ?_)) | (refine xaQ (z := ?_)) | (refine xnQ (z := ?_)) | (refine xiQ (z := ?_)))) | (with_reducible first | apply Tr.next | apply Tr.seq | apply Tr.region | apply Tr.nil | apply Tr.skip | apply Tr.block) | (refine Tr.cond_f rfl (by omega) ?_)))
  refine Tr.loop (α := Nat) (fun i => ⟨32, [(17, .int .i64 (i : Int)), (16, .int .i64 p.length), (15, .slice A p.length c), (1, .slice B q.length k), (2, .func (.func 34) #[] #[])], [], M, [] ++ F⟩) (fun i => i ≤ p.length ∧ p.take i = q.take i) (fun i => p.length - i) 0 ⟨by simp, by simp⟩ hsQ (fun i hi => ?_)
  obtain ⟨hi, heq⟩ := hi
  by_cases hlt : i < p.length
  · obtain ⟨x, hx⟩ := get_of_lt hlt
    obtain ⟨y, hy⟩ := get_of_lt (xs := q) (i := i) (by omega)
    obtain ⟨hA, ch, hat, hr1⟩ := hp.elem hx
    obtain ⟨hB, ch2, hbt, hr2⟩ := hq.elem hy
    have hr10 := hr1
    have hr20 := hr2
    obtain ⟨A1, k1, A2, k2, rfl, -, -⟩ := hr10
    obtain ⟨A3, k3, A4, k4, rfl, -, -⟩ := hr20
    (repeat (first | ((with_reducible refine Tr.step rfl ?_); (first | (refine xmQ (z := ?_)) | (refine xaQ (z := ?_)) | ((with_reducible refine Knd.load ?_); (first | (refine xwQ (z := ?_)) | (refine Exec.stab rfl (Stab.loadMA rfl (tysOk.get rfl) rfl (by assumption) (by first | rfl | assumption)) rfl ?_))) | (refine xiQ (z := ?_)) | (refine xWQ (z := ?_)) | ((with_reducible refine Knd.alloc ?_); (refine Exec.alloc (tysOk.get rfl) rfl rfl (fun b => ?_))) | (refine xxQ (z := ?_)))) | (with_reducible first | apply Tr.next | apply Tr.seq | apply Tr.region | apply Tr.nil | apply Tr.skip | apply Tr.block) | (refine Tr.cond_t rfl (by first | (with_reducible assumption) | omega) ?_)))
    ((refine Tr.step rfl ?_))
    refine Exec.callv (A := []) (first := []) (cap := []) rfl rfl (same2_fn M x y _ _ hr1 hr2) (List.Perm.refl _) rfl ?_
    rintro _ _ _ _ ⟨rfl, rfl, rfl⟩
    by_cases hxy : x = y
    · rw [decide_eq_true hxy]
      (repeat (first | ((with_reducible refine Tr.step rfl ?_); (first | (refine xmQ (z := ?_)) | (refine xdQ (z := ?_)) | ((with_reducible refine Knd.unOp ?_); (refine Exec.stab rfl (Stab.not rfl) rfl ?_)))) | (with_reducible first | apply Tr.next | apply Tr.region | apply Tr.nil | apply Tr.skip | apply Tr.in_normal) | (refine Tr.cond_bf rfl (by first | (with_reducible rfl) | (with_reducible exact Bool.not_true)) ?_)))
      refine Tr.again (i + 1) ⟨by omega, take_step hx hy heq hxy⟩ (by omega) hsQ
    · rw [decide_eq_false hxy, decide_eq_false (ne_at hx hy hxy)]
      (repeat (first | ((with_reducible refine Tr.step rfl ?_); (first | (refine xaQ (z := ?_)) | ((with_reducible refine Knd.unOp ?_); (refine Exec.stab rfl (Stab.not rfl) rfl ?_)))) | (with_reducible first | apply Tr.next | apply Tr.seq | apply Tr.region | apply Tr.nil | apply Tr.ret | apply Tr.then_ret | apply Tr.in_ret) | (refine Tr.cond_bt rfl (by first | (with_reducible rfl) | (with_reducible exact Bool.not_false)) ?_)))
      (refine dnQ (hL := by exact ⟨[_, _], rfl⟩) (k := ⟨rfl, ?_⟩))
      exact ⟨rfl, rfl⟩
  · rw [decide_eq_true (eq_all (by omega) hl heq)]
    (repeat (first | ((with_reducible refine Tr.step rfl ?_); (first | (refine xaQ (z := ?_)) | (refine xiQ (z := ?_)))) | (with_reducible first | apply Tr.next | apply Tr.seq | apply Tr.region | apply Tr.nil | apply Tr.exit | apply Tr.ret | apply Tr.then_exit) | ((with_reducible refine Tr.in_exit ?_ ?_); (exact rfl)) | (refine Tr.cond_f rfl (by first | (with_reducible assumption) | omega) ?_)))
    (refine dnQ (hL := by exact ⟨[], rfl⟩) (k := ⟨rfl, ?_⟩))
    exact ⟨rfl, rfl⟩
set_option maxHeartbeats 2000000 in
theorem same1_fn (M : Mem) (p : Msg) (u : List Value) (hp : RMsg M u p) : Fn0 Tryz.prog 31 [.agg u.toArray] M (fun r M' => r = .agg (intV (p.kind :: p.head)).toArray ∧ M = M') := by
  obtain ⟨⟨a0, a1, a2, a3, a4, a5, a6, A, c, B, d, C, e, pe, rfl, p1, p2, p3⟩, pw, -⟩ := hp
  refine Fn.intro Tryz.func31 rfl rfl Tryz.ntmps31 rfl fun E F => ?_
  (repeat (first | ((with_reducible refine Tr.step rfl ?_); (first | (refine xlQ (z := ?_)) | (refine xfQ (z := ?_)) | (refine xWQ (z := ?_)) | ((with_reducible refine Knd.box ?_); (refine Exec.box rfl rfl (fun b => ?_))) | ((with_reducible refine Knd.alloc ?_); (refine Exec.alloc (tysOk.get rfl) rfl rfl (fun b => ?_))) | ((with_reducible refine Knd.build ?_); (refine Exec.stab rfl (Stab.buildA (tysOk.get rfl) rfl (tysOk.get rfl) rfl rfl (by repeat (first | exact BuildP.nil | ((apply BuildP.one); (rfl); (rfl); (first | rfl | assumption); (repeat (first | exact SetL.z | apply SetL.s)))))) rfl ?_)))) | (with_reducible first | apply Tr.next | apply Tr.seq | apply Tr.region | apply Tr.nil | apply Tr.ret)))
  (refine Tr.done (by first | exact .inl rfl | exact .inr rfl) rfl (by repeat (first | exact RVs.nil | (apply RVs.cons; (exact RV.cellW (by rfl) (tysOk.get (by rfl)) (by rfl) (by repeat (first | exact Has.here | apply Has.there)) (by first | rfl | assumption))))) (by first | exact Mem.le.refl _ | assumption) (by exact ⟨[_, _], rfl⟩) ⟨rfl, ?_⟩)
  rw [pe]
  exact ⟨rfl, rfl⟩
set_option maxHeartbeats 4000000 in
theorem fsame_fn (M : Mem) (p q : Msg) (u v : List Value) (hp : RMsg M u p) (hq : RMsg M v q) : Fn0 Tryz.prog 11 [.agg u.toArray, .agg v.toArray] M (fun r M' => r = .bool (decide (p = q)) ∧ M = M') := by
  have hp0 := hp
  have hq0 := hq
  obtain ⟨⟨a0, a1, a2, a3, a4, a5, a6, A, c, B, d, C, e, pe, rfl, p1, p2, p3⟩, pw, -⟩ := hp
  obtain ⟨⟨b0, b1, b2, b3, b4, b5, b6, A', c', B', d', C', e', qe, rfl, q1, q2, q3⟩, qw, -⟩ := hq
  have psl := pw.1
  have qsl := qw.1
  have psl2 : (byteV p.sl).length = 32 := by simpa using psl
  have qsl2 : (byteV q.sl).length = 32 := by simpa using qsl
  have hcl : (Value.int .i64 p.kind :: .int .i64 a0 :: .int .i64 a1 :: .int .i64 a2 :: .int .i64 a3 :: .int .i64 a4 :: .int .i64 a5 :: .int .i64 a6 :: .slice A p.labels.length c :: .slice B p.verdicts.length d :: .slice C p.rels.length e :: byteV p.sl).length = 43 := by simp only [List.length_cons, psl2]
  have hcl2 : (Value.int .i64 q.kind :: .int .i64 b0 :: .int .i64 b1 :: .int .i64 b2 :: .int .i64 b3 :: .int .i64 b4 :: .int .i64 b5 :: .int .i64 b6 :: .slice A' q.labels.length c' :: .slice B' q.verdicts.length d' :: .slice C' q.rels.length e' :: byteV q.sl).length = 43 := by simp only [List.length_cons, qsl2]
  have hk8 : (p.kind :: p.head).length = 8 := by rw [List.length_cons, pw.2.1]
  have hk8' : (q.kind :: q.head).length = 8 := by rw [List.length_cons, qw.2.1]
  have kk : p = q ↔ p.kind :: p.head = q.kind :: q.head ∧ p.sl = q.sl ∧ p.labels = q.labels ∧ p.verdicts = q.verdicts ∧ p.rels = q.rels := by
    refine ⟨fun h => by rw [h]; exact ⟨rfl, rfl, rfl, rfl, rfl⟩, fun ⟨h0, h1, h2, h3, h4⟩ => ?_⟩
    cases p; cases q
    simp_all
  refine Fn.intro Tryz.func11 rfl rfl Tryz.ntmps11 rfl fun E F => ?_
  (repeat (first | ((with_reducible refine Tr.step rfl ?_); (first | (refine xaQ (z := ?_)) | ((with_reducible refine Knd.box ?_); (refine Exec.box rfl rfl (fun b => ?_))))) | (with_reducible first | apply Tr.next | apply Tr.seq | apply Tr.region | apply Tr.nil)))
  (((apply Tr.draw); (kernel_rfl)); (refine tkQ 0 (hB := by exact fun _ h => h) (s := by exact Stab.move rfl) (h := ?_)); (refine tkQ 1 (s := by exact Stab.loadW rfl (tysOk.get rfl) rfl (by repeat (first | exact Has.here | apply Has.there)) (by assumption)) (h := ?_)); (refine tkQ 3 (s := by exact Stab.move rfl) (h := ?_)); (refine tkQ 4 (s := by exact Stab.loadW rfl (tysOk.get rfl) rfl (by repeat (first | exact Has.here | apply Has.there)) (by assumption)) (h := ?_)); (refine TrA.eff 2 rfl (by kernel_rfl) (by exact .inl rfl) ?_))
  refine Exec.callv (A := []) (first := []) (cap := []) rfl rfl (same1_fn M p _ hp0) (List.Perm.refl _) rfl ?_
  rintro _ _ _ _ ⟨rfl, rfl, rfl⟩
  refine ⟨Mem.le.refl _, (by exact fun _ h => h), ?_⟩
  ((refine TrA.eff 5 rfl (by kernel_rfl) (by exact .inl rfl) ?_))
  refine Exec.callv (A := []) (first := []) (cap := []) rfl rfl (same1_fn M q _ hq0) (List.Perm.refl _) rfl ?_
  rintro _ _ _ _ ⟨rfl, rfl, rfl⟩
  refine ⟨Mem.le.refl _, (by exact fun _ h => h), ?_⟩
  (((refine tkQ 6 (s := (Stab.arrneI rfl rfl (tysOk.get rfl) rfl (tysOk.get rfl) rfl rfl (by kernel_rfl) hk8 hk8')) (h := ?_))); (refine tkQ 7 (s := by exact Stab.move rfl) (h := ?_)))
  by_cases k0 : p.kind :: p.head = q.kind :: q.head
  rotate_left
  · rw [decide_eq_false (p := p = q) (fun h => k0 (kk.1 h).1), decide_eq_true k0]
    (((refine tuQ 8 (h := ?_))); ((refine tuQ 9 (h := ?_))); ((refine tuQ 10 (h := ?_))); ((refine tuQ 11 (h := ?_))); ((refine tuQ 12 (h := ?_))); (refine tkQ 13 (s := by exact Stab.pick_t rfl (by (with_reducible rfl)) rfl) (h := ?_)); (refine TrA.done (by kernel_rfl) ?_))
    (repeat (first | ((with_reducible refine Tr.step rfl ?_); (with_reducible refine Knd.assign ?_); (refine xaQ (z := ?_))) | (with_reducible first | apply Tr.next | apply Tr.seq | apply Tr.region | apply Tr.nil | apply Tr.ret | apply Tr.then_ret) | (refine Tr.cond_bt rfl (by (with_reducible rfl)) ?_)))
    (refine dnQ (hL := by exact ⟨[_, _], rfl⟩) (k := ⟨rfl, ?_⟩))
    exact ⟨rfl, rfl⟩
  have k0n : ¬ ¬ p.kind :: p.head = q.kind :: q.head := fun h => h k0
  rw [decide_eq_false k0n]
  (((refine tgQ 8 (s := by exact sfQ) (h := ?_))); ((refine tgQ 10 (s := by exact sfQ) (h := ?_))); ((refine tgQ 9 (s := by exact Stab.loadT rfl (tysOk.get rfl) rfl (by repeat (first | exact Has.here | apply Has.there)) rfl (by assumption)) (h := ?_))); ((refine tgQ 11 (s := by exact Stab.loadT rfl (tysOk.get rfl) rfl (by repeat (first | exact Has.here | apply Has.there)) rfl (by assumption)) (h := ?_))); ((refine tgQ 12 (s := by exact Stab.arrne rfl rfl (tysOk.get rfl) rfl (tysOk.get rfl) rfl rfl (by kernel_rfl) (by assumption) (by assumption)) (h := ?_))); (refine tkQ 13 (s := by exact Stab.pick_f rfl (by (with_reducible rfl)) rfl) (h := ?_)); (refine TrA.done (by kernel_rfl) ?_))
  by_cases k8 : p.sl = q.sl
  rotate_left
  · rw [decide_eq_false (p := p = q) (fun h => k8 (kk.1 h).2.1)]
    (repeat (first | ((with_reducible refine Tr.step rfl ?_); (with_reducible refine Knd.assign ?_); (refine xaQ (z := ?_))) | (with_reducible first | apply Tr.next | apply Tr.seq | apply Tr.region | apply Tr.nil | apply Tr.ret | apply Tr.then_ret) | (refine Tr.cond_t rfl (by (with_reducible assumption)) ?_)))
    (refine dnQ (hL := by exact ⟨[_, _], rfl⟩) (k := ⟨rfl, ?_⟩))
    exact ⟨rfl, rfl⟩
  have k8n : ¬ ¬ p.sl = q.sl := fun h => h k8
  (repeat (first | ((with_reducible refine Tr.step rfl ?_); (first | (refine xlQ (z := ?_)) | (refine xfQ (z := ?_)))) | (with_reducible first | apply Tr.next | apply Tr.seq | apply Tr.region | apply Tr.skip) | (refine Tr.cond_f rfl (by (with_reducible assumption)) ?_)))
  ((refine Tr.step rfl ?_)); refine Exec.call0 rfl (sequal_fn M p.labels q.labels _ _ _ _ p1 q1) rfl ?_
  rintro _ _ _ ⟨rfl, rfl⟩
  by_cases hl : p.labels = q.labels
  rotate_left
  · rw [decide_eq_false hl, decide_eq_false (p := p = q) (fun h => hl (kk.1 h).2.2.1)]
    (repeat (first | ((with_reducible refine Tr.step rfl ?_); (first | (refine xmQ (z := ?_)) | (refine xaQ (z := ?_)) | ((with_reducible refine Knd.pick ?_); (refine Exec.stab rfl (Stab.pick_t rfl (by (with_reducible exact Bool.not_false)) rfl) rfl ?_)) | ((with_reducible refine Knd.unOp ?_); (refine Exec.stab rfl (Stab.not rfl) rfl ?_)))) | (with_reducible first | apply Tr.next | apply Tr.seq | apply Tr.region | apply Tr.nil) | (refine Tr.guard_s0 rfl rfl rfl (by first | (with_reducible rfl) | (with_reducible exact Bool.not_false)) rfl rfl ?_) | (with_reducible first | apply Tr.ret | apply Tr.then_ret) | (refine Tr.cond_bt rfl (by (with_reducible rfl)) ?_)))
    (refine dnQ (hL := by exact ⟨[_, _], rfl⟩) (k := ⟨rfl, ?_⟩))
    exact ⟨rfl, rfl⟩
  rw [decide_eq_true hl]
  (repeat (first | ((with_reducible refine Tr.step rfl ?_); (first | (refine xmQ (z := ?_)) | ((with_reducible refine Knd.unOp ?_); (refine Exec.stab rfl (Stab.not rfl) rfl ?_)))) | ((refine Tr.guard_l rfl rfl rfl (by (with_reducible exact Bool.not_true)) ?_); (first | (refine xlQ (z := ?_)) | (refine xfQ (z := ?_))))))
  ((refine Tr.guard_l rfl rfl rfl (by (with_reducible exact Bool.not_true)) ?_)); refine Exec.call0 rfl (sequal_fn M p.verdicts q.verdicts _ _ _ _ p2 q2) rfl ?_
  rintro _ _ _ ⟨rfl, rfl⟩
  by_cases hv : p.verdicts = q.verdicts
  rotate_left
  · rw [decide_eq_false hv, decide_eq_false (p := p = q) (fun h => hv (kk.1 h).2.2.2.1)]
    (repeat (first | ((with_reducible refine Tr.step rfl ?_); (first | (refine xaQ (z := ?_)) | ((with_reducible refine Knd.pick ?_); (refine Exec.stab rfl (Stab.pick_f rfl (by (with_reducible exact Bool.not_true)) rfl) rfl ?_)))) | (with_reducible first | apply Tr.next | apply Tr.seq | apply Tr.region | apply Tr.nil) | ((refine Tr.guard_l rfl rfl rfl (by first | (with_reducible rfl) | (with_reducible exact Bool.not_true)) ?_); (with_reducible refine Knd.unOp ?_); (refine Exec.stab rfl (Stab.not rfl) rfl ?_)) | (with_reducible first | apply Tr.ret | apply Tr.then_ret) | (refine Tr.cond_bt rfl (by first | (with_reducible rfl) | (with_reducible exact Bool.not_false)) ?_)))
    (refine dnQ (hL := by exact ⟨[_, _], rfl⟩) (k := ⟨rfl, ?_⟩))
    exact ⟨rfl, rfl⟩
  rw [decide_eq_true hv]
  (repeat (first | ((with_reducible refine Tr.step rfl ?_); (first | (refine xlQ (z := ?_)) | (refine xfQ (z := ?_)) | ((with_reducible refine Knd.pick ?_); (refine Exec.stab rfl (Stab.pick_f rfl (by (with_reducible exact Bool.not_true)) rfl) rfl ?_)))) | (with_reducible first | apply Tr.next | apply Tr.seq | apply Tr.region | apply Tr.nil) | ((refine Tr.guard_l rfl rfl rfl (by first | (with_reducible rfl) | (with_reducible exact Bool.not_true)) ?_); (with_reducible refine Knd.unOp ?_); (refine Exec.stab rfl (Stab.not rfl) rfl ?_)) | (with_reducible refine Tr.skip ?_) | (refine Tr.cond_bf rfl (by first | (with_reducible rfl) | (with_reducible exact Bool.not_true)) ?_)))
  ((refine Tr.step rfl ?_)); refine Exec.call0 rfl (equalR_fn M p.rels q.rels _ _ _ _ p3 q3) rfl ?_
  rintro _ _ _ ⟨rfl, rfl⟩
  (repeat (first | ((with_reducible refine Tr.step rfl ?_); (with_reducible refine Knd.assign ?_); (refine xaQ (z := ?_))) | (with_reducible first | apply Tr.next | apply Tr.nil | apply Tr.ret)))
  (refine dnQ (hL := by exact ⟨[_, _], rfl⟩) (k := ⟨rfl, ?_⟩))
  refine ⟨?_, rfl⟩
  exact congrArg Value.bool (decide_eq_decide.2 ⟨fun h => kk.2 ⟨k0, k8, hl, hv, h⟩, fun h => (kk.1 h).2.2.2.2⟩)
end Go.Proofs.YtghjhdbmkilakaaGreatDoor

/-
  The digest: the contracts of the reference's numbers, word and block.
  Conditions: none.
-/
namespace Go.Proofs.YtghjhdbmkilakaaGreatDoor.Dg
open Go Bf
attribute [local irreducible] Tr Exec Stab HasTy Go.Addr.add IntKind.wrap
set_option maxHeartbeats 4000000 in
set_option maxRecDepth 20000 in
theorem numbers_fn (M : Mem) : Fn0 Tryz.prog 112 [] M (fun r M' => r = .agg (wV Kw).toArray ∧ M = M') := by
  refine Fn.intro Tryz.func112 rfl rfl Tryz.ntmps112 rfl fun E F => ?_
  repeat (first | ((with_reducible refine Tr.step rfl ?_); (first | (refine xWQ (z := ?_)) | ((with_reducible refine Knd.alloc ?_); ((refine Exec.alloc (tysOk.get rfl) rfl rfl (fun b => ?_)))) | ((with_reducible refine Knd.build ?_); ((refine Exec.stab rfl (Stab.buildA (tysOk.get rfl) rfl (tysOk.get rfl) rfl rfl (by repeat (first | exact BuildP.nil | ((apply BuildP.one); (rfl); (rfl); (first | rfl | assumption); (repeat (first | exact SetL.z | apply SetL.s)))))) rfl ?_))))) | (with_reducible first | apply Tr.next | apply Tr.seq | apply Tr.region | apply Tr.nil | apply Tr.ret))
  (refine Tr.done (by first | exact .inl rfl | exact .inr rfl) rfl (by repeat (first | exact RVs.nil | (apply RVs.cons; (exact RV.cellW (by rfl) (tysOk.get (by rfl)) (by rfl) (by repeat (first | exact Has.here | apply Has.there)) (by first | rfl | assumption))))) (by first | exact Mem.le.refl _ | assumption) (by exact ⟨[_], rfl⟩) ⟨rfl, ?_⟩)
  exact ⟨by kernel_rfl, rfl⟩
theorem word_eq (a b c d : UInt32) : ((((0 <<< UInt32.ofNat 8 ||| a) <<< UInt32.ofNat 8 ||| b) <<< UInt32.ofNat 8 ||| c) <<< UInt32.ofNat 8 ||| d) = ((a <<< UInt32.ofNat 24 ||| b <<< UInt32.ofNat 16) ||| c <<< UInt32.ofNat 8) ||| d := by
  apply UInt32.toBitVec_inj.1
  simp only [UInt32.toBitVec_or, UInt32.toBitVec_shiftLeft]
  simp [BitVec.shiftLeft_or_distrib, ← BitVec.shiftLeft_add]
set_option maxHeartbeats 1000000 in
theorem word_fn (M : Mem) (A : Option Addr) (c : Nat) (b0 b1 b2 b3 : UInt8) (hb : BSl M (.slice A 4 c) [b0, b1, b2, b3]) :
    Fn0 Tryz.prog 110 [.slice A 4 c] M (fun r M' => r = .int .u32 ((((b0.toUInt32 <<< UInt32.ofNat 24 ||| b1.toUInt32 <<< UInt32.ofNat 16) ||| b2.toUInt32 <<< UInt32.ofNat 8) ||| b3.toUInt32).toNat : Int) ∧ M = M') := by
  obtain ⟨hA, h0⟩ := hb.byte (j := 0) (c := b0) rfl
  obtain ⟨-, h1⟩ := hb.byte (j := 1) (c := b1) rfl
  obtain ⟨-, h2⟩ := hb.byte (j := 2) (c := b2) rfl
  obtain ⟨-, h3⟩ := hb.byte (j := 3) (c := b3) rfl
  refine Fn.intro Tryz.func110 rfl rfl Tryz.ntmps110 rfl fun E F => ?_
  repeat (first | ((with_reducible refine Tr.step rfl ?_); ((refine xaQ (z := ?_)))) | (with_reducible first | apply Tr.next | apply Tr.seq | apply Tr.region | apply Tr.nil))
  (((apply Tr.draw); (kernel_rfl)); (refine tkQ 0 (hB := by exact fun _ h => h) (s := by exact Stab.move rfl) (h := ?_)); (refine tkQ 5 (s := by exact Stab.move rfl) (h := ?_)); (refine tkQ 11 (s := by exact Stab.move rfl) (h := ?_)); (refine tkQ 17 (s := by exact Stab.move rfl) (h := ?_)); (refine tkQ 1 (s := by exact sxQ) (h := ?_)); (refine tkQ 6 (s := by exact sxQ) (h := ?_)); (refine tkQ 12 (s := by exact sxQ) (h := ?_)); (refine tkQ 18 (s := by exact sxQ) (h := ?_)); (refine tkQ 2 (s := by exact sMQ) (h := ?_)); (refine tkQ 7 (s := by exact sMQ) (h := ?_)); (refine tkQ 13 (s := by exact sMQ) (h := ?_)); (refine tkQ 19 (s := by exact sMQ) (h := ?_)); (refine tkQ 3 (s := by exact Stab.byteW rfl (tysOk.get rfl) (tysOk.get rfl) rfl rfl) (h := ?_)); (refine tkQ 8 (s := by exact Stab.byteW rfl (tysOk.get rfl) (tysOk.get rfl) rfl rfl) (h := ?_)); (refine tkQ 14 (s := by exact Stab.byteW rfl (tysOk.get rfl) (tysOk.get rfl) rfl rfl) (h := ?_)); (refine tkQ 20 (s := by exact Stab.byteW rfl (tysOk.get rfl) (tysOk.get rfl) rfl rfl) (h := ?_)); ((refine tkQ 4 (s := (Stab.shlw 24 rfl rfl rfl (by decide))) (h := ?_))); ((refine tkQ 9 (s := (Stab.shlw 16 rfl rfl rfl (by decide))) (h := ?_))); (refine tkQ 15 (s := by exact Stab.shlw 8 rfl rfl rfl (by decide)) (h := ?_)); (refine tkQ 10 (s := by exact Stab.orw rfl rfl) (h := ?_)); (refine tkQ 16 (s := by exact Stab.orw rfl rfl) (h := ?_)); (refine tkQ 21 (s := by exact Stab.orw rfl rfl) (h := ?_)); (refine tkQ 22 (s := by exact Stab.assign rfl) (h := ?_)); (refine TrA.done (by kernel_rfl) ?_))
  repeat (first | (with_reducible first | apply Tr.next | apply Tr.ret))
  (refine dnQ (hL := by exact ⟨[], rfl⟩) (k := ⟨rfl, ?_⟩))
  exact ⟨rfl, rfl⟩
theorem eta8 {st : List UInt32} (h : st.length = 8) : st = [st.getD 0 0, st.getD 1 0, st.getD 2 0, st.getD 3 0, st.getD 4 0, st.getD 5 0, st.getD 6 0, st.getD 7 0] := by
  match st, h with
  | [_, _, _, _, _, _, _, _], _ => rfl
theorem eta4 {bs : List UInt8} {n : Nat} (h : 4 * n + 4 ≤ bs.length) : (bs.drop (4 * n)).take 4 = [bs.getD (4 * n) 0, bs.getD (4 * n + 1) 0, bs.getD (4 * n + 2) 0, bs.getD (4 * n + 3) 0] := by
  rw [List.drop_eq_getElem_cons (show 4 * n < bs.length by omega), List.drop_eq_getElem_cons (show 4 * n + 1 < bs.length by omega), List.drop_eq_getElem_cons (show 4 * n + 1 + 1 < bs.length by omega), List.drop_eq_getElem_cons (show 4 * n + 1 + 1 + 1 < bs.length by omega)]
  rw [List.getD_eq_getElem?_getD, List.getD_eq_getElem?_getD, List.getD_eq_getElem?_getD, List.getD_eq_getElem?_getD, List.getElem?_eq_getElem (show 4 * n < bs.length by omega), List.getElem?_eq_getElem (show 4 * n + 1 < bs.length by omega), List.getElem?_eq_getElem (show 4 * n + 2 < bs.length by omega), List.getElem?_eq_getElem (show 4 * n + 3 < bs.length by omega)]
  rfl
theorem acc4 (bs : List UInt8) (t : Nat) : acc bs t 4 = ((((bs.getD (4 * t) 0).toUInt32 <<< UInt32.ofNat 24 ||| (bs.getD (4 * t + 1) 0).toUInt32 <<< UInt32.ofNat 16) ||| (bs.getD (4 * t + 2) 0).toUInt32 <<< UInt32.ofNat 8) ||| (bs.getD (4 * t + 3) 0).toUInt32) := by
  rw [← word_eq]
  rfl
set_option maxHeartbeats 8000000 in
set_option maxRecDepth 20000 in
theorem block_fn (M : Mem) (st : List UInt32) (hst : st.length = 8) (A : Option Addr) (c : Nat) (bs : List UInt8) (hb : BSl M (.slice A 64 c) bs) (hbl : bs.length = 64) :
    Fn0 Tryz.prog 108 [.agg (wV st).toArray, .slice A 64 c] M (fun r M' => r = .agg (wV (blkF st bs)).toArray ∧ M = M') := by
  have hcap := hb.cap
  have hstl : (wV st).length = 8 := by simpa using hst
  refine Fn.intro Tryz.func108 rfl rfl Tryz.ntmps108 rfl fun E F => ?_
  repeat (first | ((with_reducible refine Tr.step rfl ?_); (first | (refine xaQ (z := ?_)) | (refine xWQ (z := ?_)) | ((with_reducible refine Knd.box ?_); ((refine Exec.box rfl rfl (fun b => ?_)))) | ((with_reducible refine Knd.alloc ?_); ((refine Exec.alloc (tysOk.get rfl) rfl rfl (fun b => ?_)))) | ((with_reducible refine Knd.build ?_); ((refine Exec.stab rfl (Stab.buildA (tysOk.get rfl) rfl (tysOk.get rfl) rfl rfl (by repeat (exact BuildP.nil))) rfl ?_))))) | (with_reducible first | apply Tr.next | apply Tr.seq | apply Tr.region | apply Tr.nil | apply Tr.block))
  rename_i b2 b4
  refine Tr.cells (b := b) (t := 139) (cs' := wV (List.replicate 64 0)) (by repeat (first | exact Upd.here | apply Upd.there)) (by kernel_rfl) ?_
  refine Tr.loop (α := Nat × List UInt32) (fun y => ⟨191, [(6, .int .i64 y.1), (5, .pointer (some ⟨b, 0, none⟩)), (4, .pointer (some ⟨b4, 0, none⟩)), (2, .pointer (some ⟨b2, 0, none⟩)), (1, .slice A 64 c)], [], M, box b 139 (wV y.2) :: box b4 117 _ :: box b2 117 (wV st) :: ([] ++ F)⟩)
    (fun y => y.1 ≤ 16 ∧ y.2.length = 64 ∧ y.2.take y.1 = ws1 bs y.1) (fun y => 16 - y.1) (0, List.replicate 64 0) ⟨by simp, by simp, by simp [ws1]⟩ hsQ (fun y hy => ?_)
  obtain ⟨t, ws⟩ := y
  obtain ⟨h1, h2, h3⟩ := hy
  simp only at h1 h2 h3
  dsimp only
  have hwl : (wV ws).length = 64 := by simpa using h2
  by_cases ht : t < 16
  · have hsub := hb.sub (l := 4 * t) (k := 4 * t + 4) (m := c) (by omega) (by omega) (by omega) (Nat.le_refl _)
    rw [show 4 * t + 4 - 4 * t = 4 by omega, eta4 (by omega)] at hsub
    repeat (first | ((with_reducible refine Tr.step rfl ?_); (first | (refine xmQ (z := ?_)) | ((with_reducible refine Knd.binOp ?_); (first | (refine xdQ (z := ?_)) | (refine Exec.stab rfl (Stab.muli rfl rfl (by omega)) rfl ?_) | (refine xiQ (z := ?_)))) | ((with_reducible refine Knd.slice ?_); ((refine Exec.stab rfl (Stab.slice_lh rfl rfl rfl (tysOk.get rfl) rfl (tysOk.get rfl) rfl (by omega) (by omega) (by omega)) rfl ?_))))) | (with_reducible first | apply Tr.next | apply Tr.seq | apply Tr.region | apply Tr.nil | apply Tr.skip | apply Tr.block) | (refine Tr.cond_t rfl (by first | (with_reducible assumption) | omega) ?_))
    rw [show (4 * (t : Int)).toNat = 4 * t by omega, show (4 * (t : Int) + 4).toNat = 4 * t + 4 by omega, show 4 * t + 4 - 4 * t = 4 by omega]
    ((refine Tr.step rfl ?_)); refine Exec.call0 rfl (word_fn M _ _ _ _ _ _ hsub) rfl ?_
    rintro _ _ _ ⟨rfl, rfl⟩
    rw [← acc4]
    repeat (first | ((with_reducible refine Tr.step rfl ?_); (first | (refine xmQ (z := ?_)) | (refine xaQ (z := ?_)) | (refine xdQ (z := ?_)) | ((with_reducible refine Knd.store ?_); ((refine Exec.storeS rfl rfl (tysOk.get rfl) rfl (by first | rfl | assumption) (by repeat (first | exact Upd.here | apply Upd.there)) (by omega) ?_))) | ((with_reducible refine Knd.indexAddr ?_); ((refine Exec.stab rfl (Stab.indexArrB0 rfl rfl (tysOk.get rfl) rfl (tysOk.get rfl) rfl (by omega) (by omega)) rfl ?_))))) | (with_reducible first | apply Tr.next | apply Tr.region | apply Tr.nil | apply Tr.in_normal))
    rw [show (wV ws).set (Int.toNat (t : Int)) (.int .u32 ((acc bs t 4).toNat : Int)) = wV (ws.set t (acc bs t 4)) from wV_set _ _ _]
    refine Tr.again (t + 1, ws.set t (acc bs t 4)) ⟨by simp only; omega, by simpa using h2, ?_⟩ (by simp only; omega) hsQ
    simp only
    rw [take_set_succ _ (by omega), h3, ws1_succ]
  have e : t = 16 := by omega
  subst e
  clear h1 ht hwl
  repeat (first | ((with_reducible refine Tr.step rfl ?_); (first | (refine xmQ (z := ?_)) | (refine xaQ (z := ?_)) | (refine xiQ (z := ?_)))) | (with_reducible first | apply Tr.next | apply Tr.seq | apply Tr.region | apply Tr.nil | apply Tr.block | apply Tr.exit | apply Tr.then_exit) | ((with_reducible refine Tr.in_exit ?_ ?_); (exact rfl)) | (refine Tr.cond_f rfl (by omega) ?_))
  refine Tr.loop (α := Nat × List UInt32) (fun y => ⟨191, [(7, .int .i64 ((16 + y.1 : Nat) : Int)), (5, .pointer (some ⟨b, 0, none⟩)), (4, .pointer (some ⟨b4, 0, none⟩)), (2, .pointer (some ⟨b2, 0, none⟩))], [], M, box b 139 (wV y.2) :: box b4 117 _ :: box b2 117 (wV st) :: ([] ++ F)⟩)
    (fun y => y.1 ≤ 48 ∧ y.2.length = 64 ∧ y.2.take (16 + y.1) = ws2 bs y.1) (fun y => 48 - y.1) (0, ws) ⟨by simp, h2, h3⟩ hsQ (fun y hy => ?_)
  clear h2 h3
  obtain ⟨j, ws⟩ := y
  obtain ⟨h1, h2, h3⟩ := hy
  simp only at h1 h2 h3
  dsimp only
  have hwl : (wV ws).length = 64 := by simpa using h2
  by_cases hj : j < 48
  · have g16 := wV_getD (l := ws) (i := j) (by omega)
    have g15 := wV_getD (l := ws) (i := j + 1) (by omega)
    have g7 := wV_getD (l := ws) (i := j + 9) (by omega)
    have g2 := wV_getD (l := ws) (i := j + 14) (by omega)
    have e16 : ((16 + j : Nat) : Int) - 16 = ((j : Nat) : Int) := by omega
    have e7 : ((16 + j : Nat) : Int) - 7 = ((j + 9 : Nat) : Int) := by omega
    have g15' : nthL (wV ws) (((16 + j : Nat) : Int) - 15).toNat = some (.int .u32 ((ws.getD (j + 1) 0).toNat : Int)) := by rw [show (((16 + j : Nat) : Int) - 15).toNat = j + 1 by omega]; exact g15
    have g2' : nthL (wV ws) (((16 + j : Nat) : Int) - 2).toNat = some (.int .u32 ((ws.getD (j + 14) 0).toNat : Int)) := by rw [show (((16 + j : Nat) : Int) - 2).toNat = j + 14 by omega]; exact g2
    repeat (first | ((with_reducible refine Tr.step rfl ?_); (first | (refine xmQ (z := ?_)) | (refine xaQ (z := ?_)) | ((with_reducible refine Knd.load ?_); ((refine Exec.stab rfl (Stab.load rfl (tysOk.get rfl) rfl (by repeat (first | exact Has.here | apply Has.there)) (by assumption)) rfl ?_))) | ((with_reducible refine Knd.binOp ?_); (first | (refine Exec.stab rfl (Stab.subi rfl rfl (by omega)) rfl ?_) | (refine xiQ (z := ?_)))) | ((with_reducible refine Knd.indexAddr ?_); ((refine Exec.stab rfl (Stab.indexArrB0 rfl rfl (tysOk.get rfl) rfl (tysOk.get rfl) rfl (by omega) (by omega)) rfl ?_))))) | (with_reducible first | apply Tr.next | apply Tr.seq | apply Tr.region | apply Tr.nil | apply Tr.skip | apply Tr.block) | (refine Tr.cond_t rfl (by first | (with_reducible assumption) | omega) ?_))
    generalize hX : ws.getD (j + 1) 0 = X
    generalize hY : ws.getD (j + 14) 0 = Y
    (((apply Tr.draw); (kernel_rfl)); (refine tkQ 0 (hB := by exact fun _ h => h) (s := by exact Stab.move rfl) (h := ?_)); (refine tkQ 1 (s := by exact Stab.move rfl) (h := ?_)); (refine tkQ 5 (s := by exact Stab.move rfl) (h := ?_)); (refine tkQ 7 (s := by exact Stab.move rfl) (h := ?_)); (refine tkQ 10 (s := by exact Stab.move rfl) (h := ?_)); (refine tkQ 14 (s := by exact Stab.move rfl) (h := ?_)); (refine tkQ 19 (s := by exact Stab.move rfl) (h := ?_)); (refine tkQ 21 (s := by exact Stab.move rfl) (h := ?_)); (refine tkQ 24 (s := by exact Stab.move rfl) (h := ?_)); (refine tkQ 2 (s := by exact Stab.subi rfl rfl (by omega)) (h := ?_)); (refine tkQ 11 (s := by exact Stab.shrw 3 rfl rfl rfl (by decide)) (h := ?_)); (refine tkQ 15 (s := by exact Stab.subi rfl rfl (by omega)) (h := ?_)); (refine tkQ 25 (s := by exact Stab.shrw 10 rfl rfl rfl (by decide)) (h := ?_)))
    rw [e16, e7]
    ((refine tkQ 3 (s := by exact Stab.indexArrB0 rfl rfl (tysOk.get rfl) rfl (tysOk.get rfl) rfl (by omega) (by omega)) (h := ?_)); (refine tkQ 16 (s := by exact Stab.indexArrB0 rfl rfl (tysOk.get rfl) rfl (tysOk.get rfl) rfl (by omega) (by omega)) (h := ?_)); (refine tkQ 4 (s := by exact Stab.load rfl (tysOk.get rfl) rfl (by repeat (first | exact Has.here | apply Has.there)) (by assumption)) (h := ?_)); (refine tkQ 17 (s := by exact Stab.load rfl (tysOk.get rfl) rfl (by repeat (first | exact Has.here | apply Has.there)) (by assumption)) (h := ?_)); (refine TrA.eff 6 rfl (by kernel_rfl) (by exact .inl rfl) ?_))
    refine Exec.call0 rfl (rror_fn M X 7 (by omega) (by omega)) rfl ?_
    rintro _ _ _ ⟨rfl, rfl⟩
    refine ⟨Mem.le.refl _, (by exact fun _ h => h), ?_⟩
    ((refine TrA.eff 8 rfl (by kernel_rfl) (by exact .inl rfl) ?_))
    refine Exec.call0 rfl (rror_fn M X 18 (by omega) (by omega)) rfl ?_
    rintro _ _ _ ⟨rfl, rfl⟩
    refine ⟨Mem.le.refl _, (by exact fun _ h => h), ?_⟩
    ((refine tkQ 9 (s := by exact Stab.xorw rfl rfl) (h := ?_)); (refine tkQ 12 (s := by exact Stab.xorw rfl rfl) (h := ?_)); (refine tkQ 13 (s := by exact Stab.addw rfl rfl) (h := ?_)); (refine tkQ 18 (s := by exact Stab.addw rfl rfl) (h := ?_)); (refine TrA.eff 20 rfl (by kernel_rfl) (by exact .inl rfl) ?_))
    refine Exec.call0 rfl (rror_fn M Y 17 (by omega) (by omega)) rfl ?_
    rintro _ _ _ ⟨rfl, rfl⟩
    refine ⟨Mem.le.refl _, (by exact fun _ h => h), ?_⟩
    ((refine TrA.eff 22 rfl (by kernel_rfl) (by exact .inl rfl) ?_))
    refine Exec.call0 rfl (rror_fn M Y 19 (by omega) (by omega)) rfl ?_
    rintro _ _ _ ⟨rfl, rfl⟩
    refine ⟨Mem.le.refl _, (by exact fun _ h => h), ?_⟩
    ((refine tkQ 23 (s := by exact Stab.xorw rfl rfl) (h := ?_)); (refine tkQ 26 (s := by exact Stab.xorw rfl rfl) (h := ?_)); (refine tkQ 27 (s := by exact Stab.addw rfl rfl) (h := ?_)); (refine tkQ 28 (s := by exact Stab.indexArrB0 rfl rfl (tysOk.get rfl) rfl (tysOk.get rfl) rfl (by omega) (by omega)) (h := ?_)); (refine TrA.effD 29 rfl (by kernel_rfl) (by kernel_rfl) (by exact .inl rfl) ?_))
    refine Exec.storeS rfl rfl (tysOk.get rfl) rfl rfl (by repeat (first | exact Upd.here | apply Upd.there)) (by rw [hwl]; omega) ?_
    refine ⟨_, fun _ h => h, ?_⟩
    ((refine TrA.done (by kernel_rfl) ?_))
    generalize hV : ws.getD j 0 + (rorw X 7 ^^^ rorw X 18 ^^^ X >>> UInt32.ofNat 3) + ws.getD (j + 9) 0 + (rorw Y 17 ^^^ rorw Y 19 ^^^ Y >>> UInt32.ofNat 10) = V
    rw [show (wV ws).set (Int.toNat ((16 + j : Nat) : Int)) (.int .u32 (V.toNat : Int)) = wV (ws.set (16 + j) V) from wV_set _ _ _]
    repeat (first | ((with_reducible refine Tr.step rfl ?_); (first | (refine xmQ (z := ?_)) | (refine xaQ (z := ?_)) | (refine xdQ (z := ?_)))) | (with_reducible first | apply Tr.next | apply Tr.region | apply Tr.nil | apply Tr.in_normal))
    rw [show ((16 + j : Nat) : Int) + 1 = ((16 + (j + 1) : Nat) : Int) by omega]
    repeat (fail)
    refine Tr.again (j + 1, ws.set (16 + j) V) ⟨by simp only; omega, by simpa using h2, ?_⟩ (by simp only; omega) hsQ
    simp only
    rw [← Nat.add_assoc, take_set_succ _ (by omega), h3, ws2, ← hV, ← hX, ← hY]
    congr 2
    rw [nxt]
    simp only [ws2_length]
    rw [getD_take h3 (by omega), getD_take h3 (by omega), getD_take h3 (by omega), getD_take h3 (by omega)]
    rw [show 16 + j - 15 = j + 1 by omega, show 16 + j - 2 = j + 14 by omega, show 16 + j - 16 = j by omega, show 16 + j - 7 = j + 9 by omega]
  have e : j = 48 := by omega
  subst e
  have hws : ws = ws2 bs 48 := by rw [← h3, List.take_of_length_le (by omega)]
  clear h1 h3 hj hwl
  have hnum := numbers_fn M
  have hKl := Kw_length
  have hkr : ∀ x t, rnds ws x (t + 1) = rnd (rnds ws x t) (Kw.getD t 0) (ws.getD t 0) := fun _ _ => rfl
  generalize hkw : Kw = kw at hnum hKl hkr
  have hkl : (wV kw).length = 64 := by simpa using hKl
  have s0 := wV_getD (l := st) (i := 0) (by omega)
  have s1 := wV_getD (l := st) (i := 1) (by omega)
  have s2 := wV_getD (l := st) (i := 2) (by omega)
  have s3 := wV_getD (l := st) (i := 3) (by omega)
  have s4 := wV_getD (l := st) (i := 4) (by omega)
  have s5 := wV_getD (l := st) (i := 5) (by omega)
  have s6 := wV_getD (l := st) (i := 6) (by omega)
  have s7 := wV_getD (l := st) (i := 7) (by omega)
  generalize hbw : b = bw
  repeat (first | ((with_reducible refine Tr.step rfl ?_); (first | (refine xmQ (z := ?_)) | (refine xiQ (z := ?_)))) | (with_reducible first | apply Tr.next | apply Tr.seq | apply Tr.region | apply Tr.nil | apply Tr.exit | apply Tr.then_exit) | ((with_reducible refine Tr.in_exit ?_ ?_); (exact rfl)) | (refine Tr.cond_f rfl (by omega) ?_))
  ((refine Tr.step rfl ?_)); refine Exec.call0 rfl (hnum) rfl ?_
  rintro _ _ _ ⟨rfl, rfl⟩
  repeat (first | ((with_reducible refine Tr.step rfl ?_); (first | ((with_reducible refine Knd.store ?_); ((refine Exec.storeW rfl rfl (tysOk.get rfl) (by repeat (first | exact Upd.here | apply Upd.there)) (by first | rfl | assumption) (by first | rfl | assumption) (by exact AllOne.words _) ?_))) | ((with_reducible refine Knd.alloc ?_); ((refine Exec.alloc (tysOk.get rfl) rfl rfl (fun b => ?_)))))) | (with_reducible first | apply Tr.next | apply Tr.seq | apply Tr.nil))
  (((apply Tr.draw); (kernel_rfl)); (refine tkQ 0 (hB := by exact fun _ h => h) (s := by exact Stab.indexArrB0 rfl rfl (tysOk.get rfl) rfl (tysOk.get rfl) rfl (by omega) (by omega)) (h := ?_)); (refine tkQ 2 (s := by exact Stab.indexArrB0 rfl rfl (tysOk.get rfl) rfl (tysOk.get rfl) rfl (by omega) (by omega)) (h := ?_)); (refine tkQ 4 (s := by exact Stab.indexArrB0 rfl rfl (tysOk.get rfl) rfl (tysOk.get rfl) rfl (by omega) (by omega)) (h := ?_)); (refine tkQ 6 (s := by exact Stab.indexArrB0 rfl rfl (tysOk.get rfl) rfl (tysOk.get rfl) rfl (by omega) (by omega)) (h := ?_)); (refine tkQ 8 (s := by exact Stab.indexArrB0 rfl rfl (tysOk.get rfl) rfl (tysOk.get rfl) rfl (by omega) (by omega)) (h := ?_)); (refine tkQ 10 (s := by exact Stab.indexArrB0 rfl rfl (tysOk.get rfl) rfl (tysOk.get rfl) rfl (by omega) (by omega)) (h := ?_)); (refine tkQ 12 (s := by exact Stab.indexArrB0 rfl rfl (tysOk.get rfl) rfl (tysOk.get rfl) rfl (by omega) (by omega)) (h := ?_)); (refine tkQ 14 (s := by exact Stab.indexArrB0 rfl rfl (tysOk.get rfl) rfl (tysOk.get rfl) rfl (by omega) (by omega)) (h := ?_)); (refine tkQ 1 (s := by exact Stab.load rfl (tysOk.get rfl) rfl (by repeat (first | exact Has.here | apply Has.there)) (by assumption)) (h := ?_)); (refine tkQ 3 (s := by exact Stab.load rfl (tysOk.get rfl) rfl (by repeat (first | exact Has.here | apply Has.there)) (by assumption)) (h := ?_)); (refine tkQ 5 (s := by exact Stab.load rfl (tysOk.get rfl) rfl (by repeat (first | exact Has.here | apply Has.there)) (by assumption)) (h := ?_)); (refine tkQ 7 (s := by exact Stab.load rfl (tysOk.get rfl) rfl (by repeat (first | exact Has.here | apply Has.there)) (by assumption)) (h := ?_)); (refine tkQ 9 (s := by exact Stab.load rfl (tysOk.get rfl) rfl (by repeat (first | exact Has.here | apply Has.there)) (by assumption)) (h := ?_)); (refine tkQ 11 (s := by exact Stab.load rfl (tysOk.get rfl) rfl (by repeat (first | exact Has.here | apply Has.there)) (by assumption)) (h := ?_)); (refine tkQ 13 (s := by exact Stab.load rfl (tysOk.get rfl) rfl (by repeat (first | exact Has.here | apply Has.there)) (by assumption)) (h := ?_)); (refine tkQ 15 (s := by exact Stab.load rfl (tysOk.get rfl) rfl (by repeat (first | exact Has.here | apply Has.there)) (by assumption)) (h := ?_)); (refine tkQ 16 (s := by exact Stab.assign rfl) (h := ?_)); (refine tkQ 17 (s := by exact Stab.assign rfl) (h := ?_)); (refine tkQ 18 (s := by exact Stab.assign rfl) (h := ?_)); (refine tkQ 19 (s := by exact Stab.assign rfl) (h := ?_)); (refine tkQ 20 (s := by exact Stab.assign rfl) (h := ?_)); (refine tkQ 21 (s := by exact Stab.assign rfl) (h := ?_)); (refine tkQ 22 (s := by exact Stab.assign rfl) (h := ?_)); (refine tkQ 23 (s := by exact Stab.assign rfl) (h := ?_)); (refine TrA.done (by kernel_rfl) ?_))
  repeat (first | ((with_reducible refine Tr.step rfl ?_); ((refine xaQ (z := ?_)))) | (with_reducible first | apply Tr.next | apply Tr.seq | apply Tr.region | apply Tr.nil | apply Tr.block))
  refine Tr.loop (α := Nat × W8) (fun y => ⟨191, [(19, .int .i64 y.1), (11, .int .u32 (y.2.a.toNat : Int)), (12, .int .u32 (y.2.b.toNat : Int)), (13, .int .u32 (y.2.c.toNat : Int)), (14, .int .u32 (y.2.d.toNat : Int)), (15, .int .u32 (y.2.e.toNat : Int)), (16, .int .u32 (y.2.f.toNat : Int)), (17, .int .u32 (y.2.g.toNat : Int)), (18, .int .u32 (y.2.h.toNat : Int)), (10, .pointer (some ⟨b, 0, none⟩)), (5, .pointer (some ⟨bw, 0, none⟩)), (4, .pointer (some ⟨b4, 0, none⟩)), (2, .pointer (some ⟨b2, 0, none⟩))], [], M, box b 139 (wV kw) :: box bw 139 (wV ws) :: box b4 117 _ :: box b2 117 (wV st) :: ([] ++ F)⟩)
    (fun y => y.1 ≤ 64 ∧ y.2 = rnds ws (W8.of st) y.1) (fun y => 64 - y.1) (0, W8.of st) ⟨by simp, rfl⟩ hsQ (fun y hy => ?_)
  obtain ⟨t, x⟩ := y
  obtain ⟨h1, h3⟩ := hy
  simp only at h1 h3
  dsimp only
  have hwl : (wV ws).length = 64 := by simpa using h2
  by_cases ht : t < 64
  · have gw := wV_getD (l := ws) (i := t) (by omega)
    have gk := wV_getD (l := kw) (i := t) (by omega)
    generalize hkk : kw.getD t 0 = kk at gk
    repeat (first | ((with_reducible refine Tr.step rfl ?_); (first | (refine xmQ (z := ?_)) | (refine xiQ (z := ?_)))) | (with_reducible first | apply Tr.next | apply Tr.seq | apply Tr.region | apply Tr.nil | apply Tr.skip | apply Tr.block) | (refine Tr.cond_t rfl (by first | (with_reducible assumption) | omega) ?_))
    (((apply Tr.draw); (kernel_rfl)); (refine tkQ 0 (hB := by exact fun _ h => h) (s := by exact Stab.move rfl) (h := ?_)); (refine tkQ 1 (s := by exact Stab.move rfl) (h := ?_)); (refine tkQ 3 (s := by exact Stab.move rfl) (h := ?_)); (refine tkQ 6 (s := by exact Stab.move rfl) (h := ?_)); (refine tkQ 10 (s := by exact Stab.move rfl) (h := ?_)); (refine tkQ 11 (s := by exact Stab.move rfl) (h := ?_)); (refine tkQ 13 (s := by exact Stab.move rfl) (h := ?_)); (refine tkQ 15 (s := by exact Stab.move rfl) (h := ?_)); (refine tkQ 19 (s := by exact Stab.move rfl) (h := ?_)); (refine tkQ 23 (s := by exact Stab.move rfl) (h := ?_)); (refine tkQ 12 (s := by exact Stab.andw rfl rfl) (h := ?_)); (refine tkQ 14 (s := by exact Stab.notw rfl) (h := ?_)); (refine tkQ 20 (s := by exact Stab.indexArrB0 rfl rfl (tysOk.get rfl) rfl (tysOk.get rfl) rfl (by omega) (by omega)) (h := ?_)); (refine tkQ 24 (s := by exact Stab.indexArrB0 rfl rfl (tysOk.get rfl) rfl (tysOk.get rfl) rfl (by omega) (by omega)) (h := ?_)); (refine tkQ 16 (s := by exact Stab.andw rfl rfl) (h := ?_)); (refine tkQ 21 (s := by exact Stab.load rfl (tysOk.get rfl) rfl (by repeat (first | exact Has.here | apply Has.there)) (by assumption)) (h := ?_)); (refine tkQ 25 (s := by exact Stab.load rfl (tysOk.get rfl) rfl (by repeat (first | exact Has.here | apply Has.there)) (by assumption)) (h := ?_)); (refine tkQ 17 (s := by exact Stab.xorw rfl rfl) (h := ?_)); (refine TrA.eff 2 rfl (by kernel_rfl) (by exact .inl rfl) ?_))
    refine Exec.call0 rfl (rror_fn M x.e 6 (by omega) (by omega)) rfl ?_
    rintro _ _ _ ⟨rfl, rfl⟩
    refine ⟨Mem.le.refl _, (by exact fun _ h => h), ?_⟩
    ((refine TrA.eff 4 rfl (by kernel_rfl) (by exact .inl rfl) ?_))
    refine Exec.call0 rfl (rror_fn M x.e 11 (by omega) (by omega)) rfl ?_
    rintro _ _ _ ⟨rfl, rfl⟩
    refine ⟨Mem.le.refl _, (by exact fun _ h => h), ?_⟩
    ((refine tkQ 5 (s := by exact Stab.xorw rfl rfl) (h := ?_)); (refine TrA.eff 7 rfl (by kernel_rfl) (by exact .inl rfl) ?_))
    refine Exec.call0 rfl (rror_fn M x.e 25 (by omega) (by omega)) rfl ?_
    rintro _ _ _ ⟨rfl, rfl⟩
    refine ⟨Mem.le.refl _, (by exact fun _ h => h), ?_⟩
    ((refine tkQ 8 (s := by exact Stab.xorw rfl rfl) (h := ?_)); (refine tkQ 9 (s := by exact Stab.addw rfl rfl) (h := ?_)); (refine tkQ 18 (s := by exact Stab.addw rfl rfl) (h := ?_)); (refine tkQ 22 (s := by exact Stab.addw rfl rfl) (h := ?_)); (refine tkQ 26 (s := by exact Stab.addw rfl rfl) (h := ?_)); (refine tkQ 27 (s := by exact Stab.assign rfl) (h := ?_)); (refine TrA.done (by kernel_rfl) ?_))
    generalize hP : x.h + (rorw x.e 6 ^^^ rorw x.e 11 ^^^ rorw x.e 25) + ((x.e &&& x.f) ^^^ (~~~x.e &&& x.g)) + kk + ws.getD t 0 = p
    repeat (first | ((with_reducible refine Tr.step rfl ?_); ((refine xmQ (z := ?_)))) | (with_reducible first | apply Tr.next | apply Tr.seq | apply Tr.region))
    ((refine Tr.step rfl ?_)); refine Exec.call0 rfl (rror_fn M x.a 2 (by omega) (by omega)) rfl ?_
    rintro _ _ _ ⟨rfl, rfl⟩
    repeat (((with_reducible refine Tr.step rfl ?_); ((refine xmQ (z := ?_)))))
    ((refine Tr.step rfl ?_)); refine Exec.call0 rfl (rror_fn M x.a 13 (by omega) (by omega)) rfl ?_
    rintro _ _ _ ⟨rfl, rfl⟩
    repeat (((with_reducible refine Tr.step rfl ?_); (first | (refine xmQ (z := ?_)) | ((with_reducible refine Knd.binOp ?_); ((refine Exec.stab rfl (Stab.xorw rfl rfl) rfl ?_))))))
    ((refine Tr.step rfl ?_)); refine Exec.call0 rfl (rror_fn M x.a 22 (by omega) (by omega)) rfl ?_
    rintro _ _ _ ⟨rfl, rfl⟩
    repeat (first | ((with_reducible refine Tr.step rfl ?_); (first | (refine xmQ (z := ?_)) | (refine xaQ (z := ?_)) | ((with_reducible refine Knd.binOp ?_); (first | (refine Exec.stab rfl (Stab.addw rfl rfl) rfl ?_) | (refine Exec.stab rfl (Stab.xorw rfl rfl) rfl ?_) | (refine Exec.stab rfl (Stab.andw rfl rfl) rfl ?_) | (refine xdQ (z := ?_)))))) | (with_reducible first | apply Tr.next | apply Tr.region | apply Tr.nil | apply Tr.in_normal))
    generalize hQ : (rorw x.a 2 ^^^ rorw x.a 13 ^^^ rorw x.a 22) + ((x.a &&& x.b) ^^^ (x.a &&& x.c) ^^^ (x.b &&& x.c)) = q
    repeat (fail)
    refine Tr.again (t + 1, ⟨p + q, x.a, x.b, x.c, x.d + p, x.e, x.f, x.g⟩) ⟨by simp only; omega, ?_⟩ (by simp only; omega) hsQ
    simp only
    rw [hkr, ← h3, hkk, rnd, pw, qw, hP, hQ]
  have e : t = 64 := by omega
  subst e
  repeat (first | ((with_reducible refine Tr.step rfl ?_); (first | (refine xmQ (z := ?_)) | ((with_reducible refine Knd.load ?_); ((refine Exec.stab rfl (Stab.load rfl (tysOk.get rfl) rfl (by repeat (first | exact Has.here | apply Has.there)) (by assumption)) rfl ?_))) | ((with_reducible refine Knd.binOp ?_); (first | (refine Exec.stab rfl (Stab.addw rfl rfl) rfl ?_) | (refine xiQ (z := ?_)))) | (refine xWQ (z := ?_)) | ((with_reducible refine Knd.indexAddr ?_); ((refine Exec.stab rfl (Stab.indexArrB0 rfl rfl (tysOk.get rfl) rfl (tysOk.get rfl) rfl (by omega) (by omega)) rfl ?_))) | ((with_reducible refine Knd.build ?_); ((refine Exec.stab rfl (Stab.buildA (tysOk.get rfl) rfl (tysOk.get rfl) rfl rfl (by repeat (first | exact BuildP.nil | ((apply BuildP.one); (rfl); (rfl); (first | rfl | assumption); (repeat (first | exact SetL.z | apply SetL.s)))))) rfl ?_))))) | (with_reducible first | apply Tr.next | apply Tr.seq | apply Tr.region | apply Tr.nil | apply Tr.exit | apply Tr.ret | apply Tr.then_exit) | ((with_reducible refine Tr.in_exit ?_ ?_); (exact rfl)) | (refine Tr.cond_f rfl (by first | (with_reducible assumption) | omega) ?_))
  (refine Tr.done (by first | exact .inl rfl | exact .inr rfl) rfl (by repeat (first | exact RVs.nil | (apply RVs.cons; (exact RV.cellW (by rfl) (tysOk.get (by rfl)) (by rfl) (by repeat (first | exact Has.here | apply Has.there)) (by first | rfl | assumption))))) (by first | exact Mem.le.refl _ | assumption) (by exact ⟨[_, _, _, _], rfl⟩) ⟨rfl, ?_⟩)
  refine ⟨?_, rfl⟩
  have hblk : blkF st bs = [st.getD 0 0 + x.a, st.getD 1 0 + x.b, st.getD 2 0 + x.c, st.getD 3 0 + x.d, st.getD 4 0 + x.e, st.getD 5 0 + x.f, st.getD 6 0 + x.g, st.getD 7 0 + x.h] := by
    rw [blkF, ← hws, ← h3]
    conv => lhs; rw [eta8 hst]
    rfl
  rw [hblk]
  rfl
end Go.Proofs.YtghjhdbmkilakaaGreatDoor.Dg

/-
  The digest: the contracts of the reference's padded and Sum.
  Conditions: none.
-/
namespace Go.Proofs.YtghjhdbmkilakaaGreatDoor.Dg
open Go Bf
attribute [local irreducible] Tr Exec Stab HasTy Go.Addr.add IntKind.wrap
theorem zerosL_app (z l : List Value) : zerosL z 0 ++ l = l := rfl
set_option maxHeartbeats 8000000 in
theorem padded_fn (M : Mem) (A : Option Addr) (c : Nat) (bs : List UInt8) (hb : BSl M (.slice A bs.length c) bs) (hl : bs.length ≤ 1000000000) :
    Fn0 Tryz.prog 107 [.slice A bs.length c] M (fun r M' => ∃ B k, r = .slice B (padF bs).length k ∧ BSl M' (.slice B (padF bs).length k) (padF bs)) := by
  have hpk : padK bs.length < 64 := by unfold padK; omega
  have hcap := hb.cap
  refine Fn.intro Tryz.func107 rfl rfl Tryz.ntmps107 rfl fun E F => ?_
  repeat (first | ((with_reducible refine Tr.step rfl ?_); (first | (refine xmQ (z := ?_)) | (refine xaQ (z := ?_)) | ((with_reducible refine Knd.buildSlice ?_); (refine Exec.buildSlice (tysOk.get rfl) rfl (tysOk.get rfl) rfl rfl rfl rfl rfl (by repeat (exact BuildP.nil)) rfl (fun b => ?_))))) | (with_reducible first | apply Tr.next | apply Tr.seq | apply Tr.region | apply Tr.nil))
  refine Tr.box_own 1 0 (by repeat (first | exact Upd.here | apply Upd.there)) rfl (by intro u hu; cases hu) (by simp [maxLen]) ?_
  ((refine Tr.step rfl ?_))
  refine Exec.append (news := byteV bs) rfl rfl (tysOk.get rfl) rfl (tysOk.get rfl) rfl rfl rfl rfl (by repeat (first | exact Del.here | apply Del.there)) (Src.row hcap.2.2.2) (by simp) (byteV_one _) (by omega) (by omega) rfl (fun A3 c3 hc3 => ?_)
  rw [zerosL_app, Nat.zero_add]
  repeat (((with_reducible refine Tr.step rfl ?_); (((with_reducible refine Knd.buildSlice ?_); (refine Exec.buildSlice (tysOk.get rfl) rfl (tysOk.get rfl) rfl rfl rfl rfl rfl (by repeat (first | exact BuildP.nil | ((apply BuildP.one); (rfl); (rfl); (first | rfl | assumption); (repeat (first | exact SetL.z | apply SetL.s))))) rfl (fun b => ?_))))))
  refine Tr.cells (cs' := byteV [128]) (by repeat (first | exact Upd.here | apply Upd.there)) rfl ?_
  ((refine Tr.step rfl ?_))
  refine Exec.append (news := byteV [128]) rfl rfl (tysOk.get rfl) rfl (tysOk.get rfl) rfl rfl rfl rfl (by repeat (first | exact Del.here | apply Del.there)) (Src.box (by repeat (first | exact Has.here | apply Has.there))) (by simp) (byteV_one _) (by omega) (by omega) rfl (fun A4 c4 hc4 => ?_)
  rw [← byteV_append, show bs ++ [128] = pad1 bs 0 from rfl, show bs.length + 1 = (pad1 bs 0).length by rw [pad1_length]]
  repeat (first | ((with_reducible refine Tr.step rfl ?_); ((refine xaQ (z := ?_)))) | (with_reducible first | apply Tr.next | apply Tr.seq | apply Tr.nil | apply Tr.block))
  refine gvQ (r := box _ 5 (byteV [128])) (k := ?_)
  refine Tr.loop (α := Nat × Option Addr × Nat) (fun y => ⟨35, [(3, .slice y.2.1 (pad1 bs y.1).length y.2.2), (2, .slice none 0 0), (0, .slice A bs.length c)], [], M, ownS 5 1 y.2.1 (pad1 bs y.1).length y.2.2 (byteV (pad1 bs y.1)) :: ([] ++ F)⟩)
    (fun y => y.1 ≤ padK bs.length ∧ y.2.2 ≤ 9223372036854775807) (fun y => padK bs.length - y.1) (0, A4, c4) ⟨Nat.zero_le _, hc4⟩ hsQ (fun y hy => ?_)
  obtain ⟨j, A5, c5⟩ := y
  obtain ⟨hj, hc5⟩ := hy
  simp only at hj hc5
  dsimp only
  have hpl := pad1_length bs j
  by_cases hlt : j < padK bs.length
  · have hne : ¬ ((pad1 bs j).length : Int) % 64 = 56 := by rw [hpl]; unfold padK at hlt; omega
    repeat (first | ((with_reducible refine Tr.step rfl ?_); (first | (refine xmQ (z := ?_)) | (refine xnQ (z := ?_)) | ((with_reducible refine Knd.binOp ?_); (first | (refine xiQ (z := ?_)) | (refine Exec.stab rfl (Stab.remp rfl rfl (by omega) (by omega)) rfl ?_))) | ((with_reducible refine Knd.buildSlice ?_); (refine Exec.buildSlice (tysOk.get rfl) rfl (tysOk.get rfl) rfl rfl rfl rfl rfl (by repeat (first | exact BuildP.nil | ((apply BuildP.one); (rfl); (rfl); (first | rfl | assumption); (repeat (first | exact SetL.z | apply SetL.s))))) rfl (fun b => ?_))))) | (with_reducible first | apply Tr.next | apply Tr.seq | apply Tr.region | apply Tr.nil | apply Tr.skip | apply Tr.block) | (refine Tr.cond_t rfl (by (with_reducible assumption)) ?_))
    refine Tr.cells (cs' := byteV [0]) (by repeat (first | exact Upd.here | apply Upd.there)) rfl ?_
    ((refine Tr.step rfl ?_))
    refine Exec.append (news := byteV [0]) rfl rfl (tysOk.get rfl) rfl (tysOk.get rfl) rfl rfl rfl rfl (by repeat (first | exact Del.here | apply Del.there)) (Src.box (by repeat (first | exact Has.here | apply Has.there))) (by simp) (byteV_one _) (by omega) (by omega) rfl (fun A6 c6 hc6 => ?_)
    rw [← byteV_append, ← pad1_succ, show (pad1 bs j).length + 1 = (pad1 bs (j + 1)).length by rw [pad1_length, pad1_length]; omega]
    repeat (first | ((with_reducible refine Tr.step rfl ?_); ((refine xaQ (z := ?_)))) | (with_reducible first | apply Tr.next | apply Tr.nil | apply Tr.in_normal))
    refine gvQ (r := box _ 5 (byteV [0])) (k := ?_)
    refine Tr.again (j + 1, A6, c6) ⟨by simp only; omega, hc6⟩ (by simp only; omega) hsQ
  have e : j = padK bs.length := by omega
  subst e
  have heq : ((pad1 bs (padK bs.length)).length : Int) % 64 = 56 := by rw [hpl]; unfold padK; omega
  have hm : (bs.length : Int) * 8 = ((8 * bs.length : Nat) : Int) := by omega
  repeat (first | ((with_reducible refine Tr.step rfl ?_); (first | (refine xmQ (z := ?_)) | (refine xaQ (z := ?_)) | (refine xnQ (z := ?_)) | ((with_reducible refine Knd.binOp ?_); (first | (refine Exec.stab rfl (Stab.mulu64 rfl rfl (by omega)) rfl ?_) | (refine xiQ (z := ?_)) | (refine Exec.stab rfl (Stab.remp rfl rfl (by omega) (by omega)) rfl ?_))) | ((with_reducible refine Knd.convert ?_); ((refine Exec.stab rfl (Stab.convu64 rfl (tysOk.get rfl) (tysOk.get rfl) rfl rfl (by omega)) rfl ?_))))) | (with_reducible first | apply Tr.next | apply Tr.seq | apply Tr.region | apply Tr.nil | apply Tr.block | apply Tr.exit | apply Tr.then_exit) | ((with_reducible refine Tr.in_exit ?_ ?_); (exact rfl)) | (refine Tr.cond_f rfl (by first | (with_reducible assumption) | omega) ?_))
  rw [hm]
  have hw : ∃ ws : Nat → List UInt8, ∀ i, ws i = pad1 bs (padK bs.length) ++ be8 (8 * bs.length) i := ⟨_, fun _ => rfl⟩
  obtain ⟨ws, hws⟩ := hw
  have hwl : ∀ i, (ws i).length = (pad1 bs (padK bs.length)).length + i := fun i => by rw [hws, List.length_append, be8_length]
  have hw0 : pad1 bs (padK bs.length) = ws 0 := by rw [hws]; simp [be8]
  have hwp : (pad1 bs (padK bs.length)).length ≤ 1000000100 := by rw [hpl]; omega
  rw [hw0]
  refine Tr.loop (α := Nat × Option Addr × Nat) (fun y => ⟨35, [(5, .int .i64 (7 - (y.1 : Int))), (4, .int .u64 ((8 * bs.length : Nat) : Int)), (3, .slice y.2.1 (ws y.1).length y.2.2), (2, .slice none 0 0)], [], M, ownS 5 1 y.2.1 (ws y.1).length y.2.2 (byteV (ws y.1)) :: ([] ++ F)⟩)
    (fun y => y.1 ≤ 8 ∧ y.2.2 ≤ 9223372036854775807) (fun y => 8 - y.1) (0, A5, c5) ⟨by simp, hc5⟩ hsQ (fun y hy => ?_)
  clear hj hc5 hlt
  obtain ⟨i, A5, c5⟩ := y
  obtain ⟨hi, hc5⟩ := hy
  simp only at hi hc5
  dsimp only
  by_cases hlt : i < 8
  · have e56 : 8 * (7 - (i : Int)) = ((56 - 8 * i : Nat) : Int) := by omega
    have hwi := hwl i
    repeat (first | ((with_reducible refine Tr.step rfl ?_); (first | (refine xmQ (z := ?_)) | ((with_reducible refine Knd.binOp ?_); (first | (refine Exec.stab rfl (Stab.muli rfl rfl (by omega)) rfl ?_) | (refine xiQ (z := ?_)))))) | (with_reducible first | apply Tr.next | apply Tr.seq | apply Tr.region | apply Tr.nil | apply Tr.skip | apply Tr.block) | (refine Tr.cond_t rfl (by first | (with_reducible assumption) | omega) ?_))
    rw [e56]
    refine Tr.step rfl ?_
    refine Exec.stab rfl (Stab.shrc (56 - 8 * i) (p := 2 ^ (56 - 8 * i)) rfl rfl (by rw [Nat.ble_eq]; show _ ≤ 64; omega) rfl) rfl ?_
    repeat (((with_reducible refine Tr.step rfl ?_); (first | ((with_reducible refine Knd.convert ?_); ((refine Exec.stab rfl (Stab.conv rfl (tysOk.get rfl) (tysOk.get rfl) rfl rfl) rfl ?_))) | ((with_reducible refine Knd.buildSlice ?_); (refine Exec.buildSlice (tysOk.get rfl) rfl (tysOk.get rfl) rfl rfl rfl rfl rfl (by repeat (first | exact BuildP.nil | ((apply BuildP.one); (rfl); (rfl); (first | rfl | assumption); (repeat (first | exact SetL.z | apply SetL.s))))) rfl (fun b => ?_))))))
    refine Tr.cells (cs' := byteV [UInt8.ofNat (8 * bs.length / 2 ^ (56 - 8 * i))]) (by repeat (first | exact Upd.here | apply Upd.there)) (be_byte _ _) ?_
    ((refine Tr.step rfl ?_))
    refine Exec.append (news := byteV [UInt8.ofNat (8 * bs.length / 2 ^ (56 - 8 * i))]) rfl rfl (tysOk.get rfl) rfl (tysOk.get rfl) rfl rfl rfl rfl (by repeat (first | exact Del.here | apply Del.there)) (Src.box (by repeat (first | exact Has.here | apply Has.there))) (by simp) (byteV_one _) (by omega) (by omega) rfl (fun A6 c6 hc6 => ?_)
    rw [← byteV_append, show ws i ++ [UInt8.ofNat (8 * bs.length / 2 ^ (56 - 8 * i))] = ws (i + 1) by rw [hws, hws, be8_succ, List.append_assoc], show (ws i).length + 1 = (ws (i + 1)).length by rw [hwl, hwl]; omega]
    repeat (first | ((with_reducible refine Tr.step rfl ?_); (first | (refine xmQ (z := ?_)) | (refine xaQ (z := ?_)) | ((with_reducible refine Knd.binOp ?_); ((refine Exec.stab rfl (Stab.subi rfl rfl (by omega)) rfl ?_))))) | (with_reducible first | apply Tr.next | apply Tr.region | apply Tr.nil | apply Tr.in_normal))
    rw [show 7 - (i : Int) - 1 = 7 - ((i + 1 : Nat) : Int) by omega]
    repeat (fail)
    refine gvQ (r := box _ 5 (byteV [_])) (k := ?_)
    refine Tr.again (i + 1, A6, c6) ⟨by simp only; omega, hc6⟩ (by simp only; omega) hsQ
  have e : i = 8 := by omega
  subst e
  have hp : ws 8 = padF bs := hws 8
  rw [hp]
  repeat (first | ((with_reducible refine Tr.step rfl ?_); (first | (refine xmQ (z := ?_)) | (refine xaQ (z := ?_)) | (refine xiQ (z := ?_)))) | (with_reducible first | apply Tr.next | apply Tr.seq | apply Tr.region | apply Tr.nil | apply Tr.exit | apply Tr.ret | apply Tr.then_exit) | ((with_reducible refine Tr.in_exit ?_ ?_); (exact rfl)) | (refine Tr.cond_f rfl (by first | (with_reducible assumption) | omega) ?_))
  refine pbQ (r := ownS 5 1 _ _ _ _) (k := fun M1 hm1 hok => ?_)
  (refine dnQ (hL := by exact ⟨[], rfl⟩) (k := ⟨rfl, ?_⟩))
  exact ⟨A5, c5, rfl, BSl.ofOwn hok rfl hc5⟩
set_option maxHeartbeats 8000000 in
set_option maxRecDepth 20000 in
theorem rsum_fn (M : Mem) (A : Option Addr) (c : Nat) (bs : List UInt8) (hb : BSl M (.slice A bs.length c) bs) (hl : bs.length ≤ 1000000000) :
    Fn0 Tryz.prog 96 [.slice A bs.length c] M (fun r M' => r = .agg (byteV (sumF bs)).toArray) := by
  have hpk : padK bs.length < 64 := by unfold padK; omega
  refine Fn.intro Tryz.func96 rfl rfl Tryz.ntmps96 rfl fun E F => ?_
  repeat (first | ((with_reducible refine Tr.step rfl ?_); (first | (refine xmQ (z := ?_)) | (refine xWQ (z := ?_)) | ((with_reducible refine Knd.alloc ?_); ((refine Exec.alloc (tysOk.get rfl) rfl rfl (fun b => ?_)))) | ((with_reducible refine Knd.build ?_); ((refine Exec.stab rfl (Stab.buildA (tysOk.get rfl) rfl (tysOk.get rfl) rfl rfl (by repeat (first | exact BuildP.nil | ((apply BuildP.one); (rfl); (rfl); (first | rfl | assumption); (repeat (first | exact SetL.z | apply SetL.s)))))) rfl ?_))))) | (with_reducible first | apply Tr.next | apply Tr.seq | apply Tr.region | apply Tr.nil))
  generalize hbs : b = b3
  rename_i b2
  refine Tr.cells (b := b3) (t := 117) (cs' := wV Hw) (by repeat (first | exact Upd.here | apply Upd.there)) (by kernel_rfl) ?_
  ((refine Tr.step rfl ?_)); refine Exec.call0 rfl (padded_fn M A c bs hb hl) rfl ?_
  rintro _ M1 hm1 ⟨A5, c5, rfl, hbp⟩
  have hcap := hbp.cap
  have hmod := padF_mod bs
  have hpl2 := padF_length bs
  generalize hP : padF bs = P at hbp hcap hmod hpl2 ⊢
  repeat (first | ((with_reducible refine Tr.step rfl ?_); ((refine xaQ (z := ?_)))) | (with_reducible first | apply Tr.next | apply Tr.seq | apply Tr.region | apply Tr.nil | apply Tr.block))
  refine Tr.loop (α := Nat) (fun i => ⟨42, [(5, .int .i64 ((64 * i : Nat) : Int)), (4, .slice A5 P.length c5), (3, .pointer (some ⟨b3, 0, none⟩)), (2, .pointer (some ⟨b2, 0, none⟩))], [], M1, box b3 117 (wV (blks P i)) :: box b2 25 _ :: ([] ++ F)⟩)
    (fun i => i ≤ P.length / 64) (fun i => P.length / 64 - i) 0 (Nat.zero_le _) hsQ (fun i hi => ?_)
  by_cases hlt : i < P.length / 64
  · have hsub := hbp.sub (l := 64 * i) (k := 64 * i + 64) (m := c5) (by omega) (by omega) (by omega) (Nat.le_refl _)
    rw [show 64 * i + 64 - 64 * i = 64 by omega] at hsub
    have hbl := blks_length P i
    have hbn : blkF (blks P i) ((P.drop (64 * i)).take 64) = blks P (i + 1) := rfl
    have hbf := block_fn M1 (blks P i) hbl _ _ _ hsub (by simp; omega)
    rw [hbn] at hbf
    generalize hS : blks P i = St at hbf hbl hbn ⊢
    generalize hS2 : blks P (i + 1) = St2 at hbf hbn
    have hSl : (wV St).length = 8 := by simpa using hbl
    have hSl2 : (wV St2).length = 8 := by rw [← hS2]; simpa using blks_length P (i + 1)
    repeat (first | ((with_reducible refine Tr.step rfl ?_); (first | (refine xmQ (z := ?_)) | (refine xnQ (z := ?_)) | (refine xiQ (z := ?_)))) | (with_reducible first | apply Tr.next | apply Tr.seq | apply Tr.region | apply Tr.nil | apply Tr.skip | apply Tr.block) | (refine Tr.cond_t rfl (by first | (with_reducible assumption) | omega) ?_))
    (((apply Tr.draw); (kernel_rfl)); (refine tkQ 0 (hB := by exact fun _ h => h) (s := by exact Stab.loadW rfl (tysOk.get rfl) rfl (by repeat (first | exact Has.here | apply Has.there)) (by assumption)) (h := ?_)); (refine tkQ 1 (s := by exact Stab.move rfl) (h := ?_)); (refine tkQ 2 (s := by exact Stab.move rfl) (h := ?_)); (refine tkQ 3 (s := by exact Stab.move rfl) (h := ?_)); (refine tkQ 4 (s := by exact Stab.addi rfl rfl (by omega)) (h := ?_)); (refine tkQ 5 (s := by exact Stab.slice_lh rfl rfl rfl (tysOk.get rfl) rfl (tysOk.get rfl) rfl (by omega) (by omega) (by omega)) (h := ?_)))
    rw [show Int.toNat ((64 * i : Nat) : Int) = 64 * i by omega, show Int.toNat (((64 * i : Nat) : Int) + 64) = 64 * i + 64 by omega, show 64 * i + 64 - 64 * i = 64 by omega]
    ((refine TrA.eff 6 rfl (by kernel_rfl) (by exact .inl rfl) ?_))
    refine Exec.call0 rfl hbf rfl ?_
    rintro _ _ _ ⟨rfl, rfl⟩
    refine ⟨Mem.le.refl _, (by exact fun _ h => h), ?_⟩
    ((refine TrA.effD 7 rfl (by kernel_rfl) (by kernel_rfl) (by exact .inl rfl) ?_); (((refine Knd.store ?_); ((refine Exec.storeW rfl rfl (tysOk.get rfl) (by repeat (first | exact Upd.here | apply Upd.there)) (by first | rfl | assumption) (by first | rfl | assumption) (by exact AllOne.words _) ?_)))); (refine ⟨_, fun _ h => h, ?_⟩); (refine TrA.done (by kernel_rfl) ?_))
    repeat (first | ((with_reducible refine Tr.step rfl ?_); (first | (refine xmQ (z := ?_)) | (refine xaQ (z := ?_)) | (refine xdQ (z := ?_)))) | (with_reducible first | apply Tr.next | apply Tr.region | apply Tr.nil | apply Tr.in_normal))
    rw [show ((64 * i : Nat) : Int) + 64 = ((64 * (i + 1) : Nat) : Int) by omega, ← hS2]
    repeat (fail)
    refine Tr.again (i + 1) (by omega) (by omega) hsQ
  have e : i = P.length / 64 := by omega
  subst e
  have h64 : 64 * (P.length / 64) = P.length := by omega
  clear hlt hi
  generalize hS : blks P (P.length / 64) = St
  rw [h64]
  have hSl : St.length = 8 := by rw [← hS]; exact blks_length _ _
  repeat (first | ((with_reducible refine Tr.step rfl ?_); (first | (refine xmQ (z := ?_)) | (refine xaQ (z := ?_)) | (refine xnQ (z := ?_)) | (refine xiQ (z := ?_)) | (refine xWQ (z := ?_)) | ((with_reducible refine Knd.alloc ?_); ((refine Exec.alloc (tysOk.get rfl) rfl rfl (fun b => ?_)))) | ((with_reducible refine Knd.build ?_); ((refine Exec.stab rfl (Stab.buildA (tysOk.get rfl) rfl (tysOk.get rfl) rfl rfl (by repeat (exact BuildP.nil))) rfl ?_))))) | (with_reducible first | apply Tr.next | apply Tr.seq | apply Tr.region | apply Tr.nil | apply Tr.block | apply Tr.exit | apply Tr.then_exit) | ((with_reducible refine Tr.in_exit ?_ ?_); (exact rfl)) | (refine Tr.cond_f rfl (by omega) ?_))
  refine Tr.cells (b := b) (t := 25) (cs' := byteV (List.replicate 32 0)) (by repeat (first | exact Upd.here | apply Upd.there)) (by kernel_rfl) ?_
  refine Tr.loop (α := Nat × List UInt8) (fun y => ⟨42, [(7, .int .i64 y.1), (6, .pointer (some ⟨b, 0, none⟩)), (3, .pointer (some ⟨b3, 0, none⟩)), (2, .pointer (some ⟨b2, 0, none⟩))], [], M1, box b 25 (byteV y.2) :: box b3 117 (wV St) :: box b2 25 _ :: ([] ++ F)⟩)
    (fun y => y.1 ≤ 32 ∧ y.2.length = 32 ∧ ∀ q, q < y.1 → y.2.getD q 0 = outB St q) (fun y => 32 - y.1) (0, List.replicate 32 0) ⟨by simp, by simp, fun q hq => absurd hq (by simp)⟩ hsQ (fun y hy => ?_)
  obtain ⟨i, cur⟩ := y
  obtain ⟨hi, hcl, hq⟩ := hy
  simp only at hi hcl hq
  dsimp only
  have hcl' : (byteV cur).length = 32 := by simpa using hcl
  by_cases hlt : i < 32
  · have gs := wV_getD (l := St) (i := i / 4) (by omega)
    have gs' : nthL (wV St) ((i : Int) / 4).toNat = some (.int .u32 ((St.getD (i / 4) 0).toNat : Int)) := by rw [show ((i : Int) / 4).toNat = i / 4 by omega]; exact gs
    have e24 : 24 - 8 * ((i : Int) % 4) = ((24 - 8 * (i % 4) : Nat) : Int) := by omega
    repeat (first | ((with_reducible refine Tr.step rfl ?_); (first | (refine xmQ (z := ?_)) | ((with_reducible refine Knd.load ?_); ((refine Exec.stab rfl (Stab.load rfl (tysOk.get rfl) rfl (by repeat (first | exact Has.here | apply Has.there)) (by assumption)) rfl ?_))) | ((with_reducible refine Knd.binOp ?_); (first | (refine Exec.stab rfl (Stab.subi rfl rfl (by omega)) rfl ?_) | (refine Exec.stab rfl (Stab.muli rfl rfl (by omega)) rfl ?_) | (refine xiQ (z := ?_)) | (refine Exec.stab rfl (Stab.remp rfl rfl (by omega) (by omega)) rfl ?_) | (refine Exec.stab rfl (Stab.quoi rfl rfl (by omega) (by omega) (by omega)) rfl ?_))) | ((with_reducible refine Knd.indexAddr ?_); ((refine Exec.stab rfl (Stab.indexArrB0 rfl rfl (tysOk.get rfl) rfl (tysOk.get rfl) rfl (by omega) (by omega)) rfl ?_))))) | (with_reducible first | apply Tr.next | apply Tr.seq | apply Tr.region | apply Tr.nil | apply Tr.skip | apply Tr.block) | (refine Tr.cond_t rfl (by first | (with_reducible assumption) | omega) ?_))
    rw [e24]
    refine Tr.step rfl ?_
    refine Exec.stab rfl (Stab.shrw (24 - 8 * (i % 4)) rfl rfl rfl (by omega)) rfl ?_
    repeat (first | ((with_reducible refine Tr.step rfl ?_); (first | (refine xmQ (z := ?_)) | (refine xaQ (z := ?_)) | (refine xdQ (z := ?_)) | ((with_reducible refine Knd.store ?_); ((refine Exec.storeS rfl rfl (tysOk.get rfl) rfl (by first | rfl | assumption) (by repeat (first | exact Upd.here | apply Upd.there)) (by omega) ?_))) | ((with_reducible refine Knd.indexAddr ?_); ((refine Exec.stab rfl (Stab.indexArrB0 rfl rfl (tysOk.get rfl) rfl (tysOk.get rfl) rfl (by omega) (by omega)) rfl ?_))) | ((with_reducible refine Knd.convert ?_); ((refine Exec.stab rfl (Stab.wByte rfl (tysOk.get rfl) (tysOk.get rfl) rfl rfl) rfl ?_))))) | (with_reducible first | apply Tr.next | apply Tr.region | apply Tr.nil | apply Tr.in_normal))
    rw [show Int.toNat (i : Int) = i from rfl, byteV_set]
    refine Tr.again (i + 1, cur.set i (outB St i)) ⟨by simp only; omega, by simpa using hcl, fun q h => ?_⟩ (by simp only; omega) hsQ
    simp only at h ⊢
    by_cases e : q = i
    · subst e
      rw [List.getD_eq_getElem?_getD, List.getElem?_set_self (by omega)]
      rfl
    · rw [List.getD_eq_getElem?_getD, List.getElem?_set_ne (by omega), ← List.getD_eq_getElem?_getD]
      exact hq q (by omega)
  have e : i = 32 := by omega
  subst e
  have hout := out_done hcl hq
  repeat (first | ((with_reducible refine Tr.step rfl ?_); (first | (refine xmQ (z := ?_)) | ((with_reducible refine Knd.load ?_); ((refine Exec.stab rfl (Stab.loadW rfl (tysOk.get rfl) rfl (by repeat (first | exact Has.here | apply Has.there)) (by assumption)) rfl ?_))) | (refine xiQ (z := ?_)) | ((with_reducible refine Knd.store ?_); ((refine Exec.storeW rfl rfl (tysOk.get rfl) (by repeat (first | exact Upd.here | apply Upd.there)) (by first | rfl | assumption) (by first | rfl | assumption) (by exact AllOne.bytes _) ?_))))) | (with_reducible first | apply Tr.next | apply Tr.seq | apply Tr.region | apply Tr.nil | apply Tr.exit | apply Tr.ret | apply Tr.then_exit) | ((with_reducible refine Tr.in_exit ?_ ?_); (exact rfl)) | (refine Tr.cond_f rfl (by first | (with_reducible assumption) | omega) ?_))
  (refine Tr.done (by first | exact .inl rfl | exact .inr rfl) rfl (by repeat (first | exact RVs.nil | (apply RVs.cons; (exact RV.cellW (by rfl) (tysOk.get (by rfl)) (by rfl) (by repeat (first | exact Has.here | apply Has.there)) (by first | rfl | assumption))))) (by first | exact Mem.le.refl _ | assumption) (by exact ⟨[_, _, _], rfl⟩) ⟨rfl, ?_⟩)
  show Value.agg (byteV cur).toArray = _
  rw [hout, ← hS, ← hP]
  rfl
end Go.Proofs.YtghjhdbmkilakaaGreatDoor.Dg

/-
  The digest: the contracts of the reference's Tagged, node and Chain; of both Trees.
  Conditions: none.
-/
namespace Go.Proofs.YtghjhdbmkilakaaGreatDoor.Dg
open Go Bf
attribute [local irreducible] Tr Exec Stab HasTy Go.Addr.add IntKind.wrap
set_option maxHeartbeats 4000000 in
theorem rtagged_fn (M : Mem) (t : List UInt8) (ht : t.length ≤ 100000000) (A : Option Addr) (c : Nat) (bs : List UInt8) (hb : BSl M (.slice A bs.length c) bs) (hl : bs.length ≤ 100000000) :
    Fn0 Tryz.prog 53 [.string ⟨t.toArray⟩, .slice A bs.length c] M (fun r M' => r = .agg (byteV (tagF t bs)).toArray) := by
  refine Fn.intro Tryz.func53 rfl rfl Tryz.ntmps53 rfl fun E F => ?_
  repeat (first | ((with_reducible refine Tr.step rfl ?_); (first | (refine xmQ (z := ?_)) | ((with_reducible refine Knd.alloc ?_); (first | (refine Exec.alloc (tysOk.get rfl) rfl rfl (fun b => ?_)) | (refine Exec.alloc1 (tysOk.get rfl) rfl rfl rfl (fun b => ?_)))))) | (with_reducible first | apply Tr.next | apply Tr.seq | apply Tr.region | apply Tr.nil))
  generalize hb4 : b = b4
  ((refine Tr.step rfl ?_))
  refine Exec.strBytes (l := t) rfl (tysOk.get rfl) (tysOk.get rfl) rfl (tysOk.get rfl) rfl (by omega) rfl (fun b9 c9 M1 hm1 hb9 => ?_)
  have hs := rsum_fn M1 _ _ t hb9 (by omega)
  have hsl : (byteV (sumF t)).length = 32 := by simpa using sumF_length t
  have hsl' := sumF_length t
  unfold tagF
  generalize hT : sumF t = T at hs hsl hsl' ⊢
  repeat (fail)
  ((refine Tr.step rfl ?_)); refine Exec.call0 rfl (hs) rfl ?_
  rintro _ M2 hm2 rfl
  repeat (first | ((with_reducible refine Tr.step rfl ?_); (first | ((with_reducible refine Knd.store ?_); ((refine Exec.storeW rfl rfl (tysOk.get rfl) (by repeat (first | exact Upd.here | apply Upd.there)) (by first | rfl | assumption) (by first | rfl | assumption) (by first | exact AllOne.bytes _ | exact AllOne.words _ | exact (by repeat (first | exact AllOne.nil | refine AllOne.cons (by first | rfl | assumption) ?_))) ?_))) | ((with_reducible refine Knd.alloc ?_); (first | (refine Exec.alloc (tysOk.get rfl) rfl rfl (fun b => ?_)) | (refine Exec.alloc1 (tysOk.get rfl) rfl rfl rfl (fun b => ?_)))) | ((with_reducible refine Knd.slice ?_); ((refine Exec.stab rfl (Stab.sliceArr rfl (tysOk.get rfl) rfl (tysOk.get rfl) rfl) rfl ?_))) | ((with_reducible refine Knd.buildSlice ?_); (refine Exec.buildSlice (tysOk.get rfl) rfl (tysOk.get rfl) rfl rfl rfl rfl rfl (by repeat (exact BuildP.nil)) rfl (fun b => ?_))))) | (with_reducible first | apply Tr.next | apply Tr.seq | apply Tr.region | apply Tr.nil))
  rename_i b5
  refine pbQ (r := box b5 25 _) (k := fun M3 hm3 hok3 => ?_)
  have hbt := BSl.of32 hok3 hsl'
  have hm03 := hm1.trans (hm2.trans hm3)
  have hb3 := hb.mono hm03
  have hcap := hb3.cap
  have hcapt := hbt.cap
  rw [hsl'] at hcapt
  refine Tr.box_own (b := b) 1 0 (by repeat (first | exact Upd.here | apply Upd.there)) rfl (by intro u hu; cases hu) (by simp [maxLen]) ?_
  ((refine Tr.step rfl ?_))
  refine Exec.append (news := byteV T) rfl rfl (tysOk.get rfl) rfl (tysOk.get rfl) rfl rfl rfl rfl (by repeat (first | exact Del.here | apply Del.there)) (Src.row hcapt.2.2.2) (by simpa using hsl') (byteV_one _) (by omega) (by omega) rfl (fun A6 c6 hc6 => ?_)
  rw [zerosL_app, Nat.zero_add]
  repeat (((with_reducible refine Tr.step rfl ?_); ((refine xmQ (z := ?_)))))
  ((refine Tr.step rfl ?_))
  refine Exec.append (news := byteV bs) rfl rfl (tysOk.get rfl) rfl (tysOk.get rfl) rfl rfl rfl rfl (by repeat (first | exact Del.here | apply Del.there)) (Src.row hcap.2.2.2) (by simp) (byteV_one _) (by omega) (by omega) rfl (fun A7 c7 hc7 => ?_)
  rw [← byteV_append, show 32 + bs.length = (T ++ bs).length by simp [hsl']]
  refine pbQ (r := ownS 5 1 _ _ _ _) (k := fun M4 hm4 hok4 => ?_)
  have hbc := BSl.ofOwn hok4 rfl hc7
  have hm04 := hm03.trans hm4
  have hs2 := rsum_fn M4 A7 c7 (T ++ bs) hbc (by simp; omega)
  have hrl : (byteV (sumF (T ++ bs))).length = 32 := by simpa using sumF_length (T ++ bs)
  generalize hR : sumF (T ++ bs) = R at hs2 hrl ⊢
  ((refine Tr.step rfl ?_)); refine Exec.call0 rfl (hs2) rfl ?_
  rintro _ M6 hm6 rfl
  have hm06 := hm04.trans hm6
  repeat (first | ((with_reducible refine Tr.step rfl ?_); (((with_reducible refine Knd.store ?_); ((refine Exec.storeW rfl rfl (tysOk.get rfl) (by repeat (first | exact Upd.here | apply Upd.there)) (by first | rfl | assumption) (by first | rfl | assumption) (by first | exact AllOne.bytes _ | exact AllOne.words _ | exact (by repeat (first | exact AllOne.nil | refine AllOne.cons (by first | rfl | assumption) ?_))) ?_))))) | (with_reducible first | apply Tr.next | apply Tr.nil | apply Tr.ret))
  (refine Tr.done (by first | exact .inl rfl | exact .inr rfl) rfl (by repeat (first | exact RVs.nil | (apply RVs.cons; (exact RV.cellW (by rfl) (tysOk.get (by rfl)) (by rfl) (by repeat (first | exact Has.here | apply Has.there)) (by first | rfl | assumption))))) (by first | exact Mem.le.refl _ | assumption) (by exact ⟨[_], rfl⟩) ⟨rfl, ?_⟩)
  rfl
/-- a digest as an element -/
def RD (_ : Mem) (c : List Value) (x : List UInt8) : Prop := c = byteV x ∧ x.length = 32
theorem RD.mono (M M' : Mem) (c : List Value) (x : List UInt8) (_ : Mem.le M M') (h : RD M c x) : RD M' c x := h
end Go.Proofs.YtghjhdbmkilakaaGreatDoor.Dg

/-
  Frames: the reference's Encode and first.
  Conditions: none.
-/
namespace Go.Proofs.YtghjhdbmkilakaaGreatDoor
open Go Bf
attribute [local irreducible] Tr Exec Stab HasTy Go.Addr.add IntKind.wrap
theorem pre_of {b : List UInt8} (h0 : b.getD 0 0 = 170) (hl : 10 ≤ b.length) (hm : manyF b ≤ 65536) (h2 : manyF b + 10 ≤ b.length) : preF ⟨((b.getD 1 0).toNat : Int), (b.drop 6).take (manyF b)⟩ = b.take (6 + manyF b) := by
  have hl2 : ((b.drop 6).take (manyF b)).length = manyF b := by rw [List.length_take, List.length_drop]; omega
  have hb6 : b.take 6 = hdF ((b.getD 1 0).toNat : Int).toNat (manyF b) := by
    obtain ⟨x0, x1, x2, x3, x4, x5, r, rfl⟩ := six (b := b) (by omega)
    have ex0 : x0 = 170 := h0
    have em : manyF (x0 :: x1 :: x2 :: x3 :: x4 :: x5 :: r) = ((x2.toNat * 256 + x3.toNat) * 256 + x4.toNat) * 256 + x5.toNat := rfl
    show [x0, x1, x2, x3, x4, x5] = hdF ((x1.toNat : Int)).toNat _
    rw [em]
    have b2 := x2.toNat_lt
    have b3 := x3.toNat_lt
    have b4 := x4.toNat_lt
    have b5 := x5.toNat_lt
    have q : ∀ (x : UInt8) (m : Nat), m % 256 = x.toNat → UInt8.ofNat m = x := fun x m hm => by
      apply UInt8.toNat_inj.1
      rw [UInt8.toNat_ofNat']; exact hm
    rw [hdF, ex0, Int.toNat_natCast, q x1 x1.toNat (by have := x1.toNat_lt; omega), q x2 _ (by omega), q x3 _ (by omega), q x4 _ (by omega), q x5 _ (by omega)]
  show hdF ((b.getD 1 0).toNat : Int).toNat ((b.drop 6).take (manyF b)).length ++ (b.drop 6).take (manyF b) = _
  rw [hl2, ← hb6, List.take_add]
theorem first_iff {T : List UInt8 → List UInt8} {b : List UInt8} (h0 : b.getD 0 0 = 170) (hl : 10 ≤ b.length) (hm : manyF b ≤ 65536) (h2 : manyF b + 10 ≤ b.length) :
    encB T ⟨((b.getD 1 0).toNat : Int), (b.drop 6).take (manyF b)⟩ = b.take (manyF b + 10) ↔ (T (b.take (6 + manyF b))).take 4 = (b.drop (6 + manyF b)).take 4 := by
  rw [encB, pre_of h0 hl hm h2, show manyF b + 10 = (6 + manyF b) + 4 by omega, List.take_add (i := 6 + manyF b), List.append_right_inj]
theorem rhd_cells {k : Int} {n : Nat} (h0 : 0 ≤ k) (h1 : k ≤ 255) :
    [Value.int .u8 170, .int .u8 k, .int .u8 ((UInt8.ofNat (n / 16777216)).toNat : Int), .int .u8 ((UInt8.ofNat (n / 65536 % Int.natAbs 256)).toNat : Int), .int .u8 ((UInt8.ofNat (n / 256 % Int.natAbs 256)).toNat : Int), .int .u8 ((UInt8.ofNat (n % Int.natAbs 256)).toNat : Int)] = byteV (hdF k.toNat n) := by
  have b : ∀ m : Nat, UInt8.ofNat (m % Int.natAbs 256) = UInt8.ofNat m := fun m => by
    apply UInt8.toNat_inj.1
    rw [UInt8.toNat_ofNat', UInt8.toNat_ofNat']
    show m % 256 % 256 = m % 256
    omega
  rw [b, b, b]
  show _ = [Value.int .u8 ((170 : UInt8).toNat : Int), .int .u8 ((UInt8.ofNat k.toNat).toNat : Int), .int .u8 ((UInt8.ofNat (n / 16777216)).toNat : Int), .int .u8 ((UInt8.ofNat (n / 65536)).toNat : Int), .int .u8 ((UInt8.ofNat (n / 256)).toNat : Int), .int .u8 ((UInt8.ofNat n).toNat : Int)]
  have e : ((UInt8.ofNat k.toNat).toNat : Int) = k := by rw [UInt8.toNat_ofNat']; omega
  rw [e]
  rfl
theorem four {b : List UInt8} (h : 4 ≤ b.length) : ∃ x0 x1 x2 x3 r, b = x0 :: x1 :: x2 :: x3 :: r :=
  match b, h with
  | x0 :: x1 :: x2 :: x3 :: r, _ => ⟨x0, x1, x2, x3, r, rfl⟩
theorem rtagged_own (M : Mem) (A : Option Addr) (c : Nat) (bs : List UInt8) (hc : c ≤ 9223372036854775807) (hl : bs.length ≤ 100000000) :
    Bf.Fn Tryz.prog 53 [.string ⟨fTag.toArray⟩, .slice A bs.length c] M [ownS 5 1 A bs.length c (byteV bs)] (fun v M' A' => A' = [ownS 5 1 A bs.length c (byteV bs)] ∧ M = M' ∧ v = .agg (byteV (TF bs)).toArray) :=
  Fn.lend (R := fun v => v = .agg (byteV (TF bs)).toArray) ⟨Tryz.f53, Tryz.func53, rfl, rfl⟩ fun M' hm hok => by
    have h := Fn.forget (R := fun v A' => A' = [] ∧ v = .agg (byteV (TF bs)).toArray) (Dg.rtagged_fn M' fTag (by decide) A c bs (BSl.ofOwn (hok _ List.mem_cons_self) rfl hc) hl)
    exact Fn.mono h fun v M2 A' _ ⟨⟨h1, h2⟩, h3⟩ => ⟨h1, h2, h3⟩
set_option maxHeartbeats 2000000 in
theorem rencode_fr (M : Mem) (A : Option Addr) (c : Nat) (f : Frm) (hb : BSl M (.slice A f.body.length c) f.body) :
    Fn0 Tryz.prog 22 [.agg #[.int .i64 f.kind, .slice A f.body.length c]] M (fun r M' => RBE M' r (encFr f)) := by
  have hlen := hb.len_le
  have hcap := hb.cap
  refine Fn.intro Tryz.func22 rfl rfl Tryz.ntmps22 rfl fun E F => ?_
  by_cases hok : okF f
  rotate_left
  · have e : encFr f = ([], 470) := by rw [encFr, if_neg hok]
    rw [e]
    by_cases c1 : f.kind < 0
    · (repeat (first | ((with_reducible refine Tr.step rfl ?_); (first | (refine xmQ (z := ?_)) | (refine xaQ (z := ?_)) | (refine xlQ (z := ?_)) | (refine xfQ (z := ?_)) | (refine xiQ (z := ?_)) | ((with_reducible refine Knd.pick ?_); (first | (refine Exec.stab rfl (Stab.pick_t rfl (by first | (with_reducible rfl) | (with_reducible assumption) | (with_reducible exact Bool.not_true) | (with_reducible exact Bool.not_false)) rfl) rfl ?_) | (refine Exec.stab rfl (Stab.pick_td rfl (by first | (with_reducible assumption) | (with_reducible rfl) | (with_reducible exact (not_not_intro rfl)) | omega) rfl) rfl ?_))) | ((with_reducible refine Knd.box ?_); (refine Exec.box rfl rfl (fun b => ?_))))) | (with_reducible first | apply Tr.next | apply Tr.seq | apply Tr.region | apply Tr.nil) | (refine Tr.guard_s0 rfl rfl rfl (by first | (with_reducible rfl) | (with_reducible assumption) | (with_reducible exact Bool.not_true) | (with_reducible exact Bool.not_false)) rfl rfl ?_) | (refine Tr.guard_n' rfl rfl rfl (by first | (with_reducible assumption) | (with_reducible rfl) | (with_reducible exact (not_not_intro rfl)) | omega) rfl rfl ?_) | (with_reducible first | apply Tr.ret | apply Tr.then_ret) | (refine Tr.cond_bt rfl (by first | (with_reducible rfl) | (with_reducible assumption) | (with_reducible exact Bool.not_true) | (with_reducible exact Bool.not_false)) ?_)))
      (refine dnQ (hL := by exact ⟨[_], rfl⟩) (k := ⟨rfl, ?_⟩))
      exact ⟨none, 0, rfl, BSl.nil _⟩
    by_cases c2 : f.kind > 255
    · (repeat (first | ((with_reducible refine Tr.step rfl ?_); (first | (refine xmQ (z := ?_)) | (refine xaQ (z := ?_)) | (refine xlQ (z := ?_)) | (refine xfQ (z := ?_)) | (refine xiQ (z := ?_)) | ((with_reducible refine Knd.pick ?_); (first | (refine Exec.stab rfl (Stab.pick_td rfl (by first | (with_reducible assumption) | (with_reducible rfl) | (with_reducible exact (not_not_intro rfl)) | omega) rfl) rfl ?_) | (refine Exec.stab rfl (Stab.pick_fd rfl (by first | (with_reducible assumption) | (with_reducible rfl) | (with_reducible exact (not_not_intro rfl)) | omega) rfl) rfl ?_))) | ((with_reducible refine Knd.box ?_); (refine Exec.box rfl rfl (fun b => ?_))))) | (with_reducible first | apply Tr.next | apply Tr.seq | apply Tr.region | apply Tr.nil) | ((refine Tr.guard_y' rfl rfl rfl (by first | (with_reducible assumption) | (with_reducible rfl) | (with_reducible exact (not_not_intro rfl)) | omega) ?_); (first | (refine xlQ (z := ?_)) | (refine xfQ (z := ?_)) | (refine xiQ (z := ?_)))) | (refine Tr.guard_n' rfl rfl rfl (by first | (with_reducible assumption) | (with_reducible rfl) | (with_reducible exact (not_not_intro rfl)) | omega) rfl rfl ?_) | (with_reducible first | apply Tr.ret | apply Tr.then_ret) | (refine Tr.cond_bt rfl (by first | (with_reducible rfl) | (with_reducible assumption) | (with_reducible exact Bool.not_true) | (with_reducible exact Bool.not_false)) ?_)))
      (refine dnQ (hL := by exact ⟨[_], rfl⟩) (k := ⟨rfl, ?_⟩))
      exact ⟨none, 0, rfl, BSl.nil _⟩
    have c3 : (f.body.length : Int) > 65536 := by
      have h : ¬ (f.body.length ≤ 65536) := fun h => hok ⟨⟨by omega, by omega⟩, h⟩
      omega
    (repeat (first | ((with_reducible refine Tr.step rfl ?_); (first | (refine xmQ (z := ?_)) | (refine xaQ (z := ?_)) | (refine xlQ (z := ?_)) | (refine xfQ (z := ?_)) | (refine xiQ (z := ?_)) | ((with_reducible refine Knd.pick ?_); (refine Exec.stab rfl (Stab.pick_fd rfl (by first | (with_reducible assumption) | (with_reducible rfl) | (with_reducible exact (not_not_intro rfl)) | omega) rfl) rfl ?_)) | ((with_reducible refine Knd.box ?_); (refine Exec.box rfl rfl (fun b => ?_))))) | (with_reducible first | apply Tr.next | apply Tr.seq | apply Tr.region | apply Tr.nil) | ((refine Tr.guard_y' rfl rfl rfl (by first | (with_reducible assumption) | (with_reducible rfl) | (with_reducible exact (not_not_intro rfl)) | omega) ?_); (first | (refine xlQ (z := ?_)) | (refine xfQ (z := ?_)) | (refine xnQ (z := ?_)) | (refine xiQ (z := ?_)))) | (with_reducible first | apply Tr.ret | apply Tr.then_ret) | (refine Tr.cond_t rfl (by first | (with_reducible assumption) | (with_reducible rfl) | (with_reducible exact (not_not_intro rfl)) | omega) ?_)))
    (refine dnQ (hL := by exact ⟨[_], rfl⟩) (k := ⟨rfl, ?_⟩))
    exact ⟨none, 0, rfl, BSl.nil _⟩
  have e : encFr f = (encB TF f, 0) := by rw [encFr, if_pos hok]
  rw [e]
  obtain ⟨⟨k1, k2⟩, k3⟩ := hok
  (repeat (first | ((with_reducible refine Tr.step rfl ?_); (first | (refine xmQ (z := ?_)) | (refine xaQ (z := ?_)) | (refine xlQ (z := ?_)) | (refine xfQ (z := ?_)) | (refine xnQ (z := ?_)) | ((with_reducible refine Knd.binOp ?_); (first | (refine xiQ (z := ?_)) | (refine Exec.stab rfl (Stab.remp rfl rfl (by omega) (by omega)) rfl ?_) | (refine Exec.stab rfl (Stab.quoi rfl rfl (by omega) (by omega) (by omega)) rfl ?_))) | ((with_reducible refine Knd.pick ?_); (refine Exec.stab rfl (Stab.pick_fd rfl (by first | (with_reducible assumption) | (with_reducible rfl) | (with_reducible exact (not_not_intro rfl)) | omega) rfl) rfl ?_)) | ((with_reducible refine Knd.box ?_); (refine Exec.box rfl rfl (fun b => ?_))) | ((with_reducible refine Knd.convert ?_); (first | (refine Exec.stab rfl (Stab.lowb rfl (tysOk.get rfl) (tysOk.get rfl) rfl rfl) rfl ?_) | (refine Exec.stab rfl (Stab.convu8 rfl (tysOk.get rfl) (tysOk.get rfl) rfl rfl (by omega)) rfl ?_))) | ((with_reducible refine Knd.buildSlice ?_); (refine Exec.buildSlice (tysOk.get rfl) rfl (tysOk.get rfl) rfl rfl rfl rfl rfl (by repeat (first | exact BuildP.nil | ((apply BuildP.one); (rfl); (rfl); (first | rfl | assumption); (repeat (first | exact SetL.z | apply SetL.s))) | ((apply BuildP.many); (rfl); (rfl); (rfl); (rfl); (repeat (first | exact PutL.nil | ((apply PutL.cons); (repeat (first | exact SetL.z | apply SetL.s)))))))) rfl (fun b => ?_))))) | (with_reducible first | apply Tr.next | apply Tr.seq | apply Tr.region | apply Tr.nil) | ((refine Tr.guard_y' rfl rfl rfl (by first | (with_reducible assumption) | (with_reducible rfl) | (with_reducible exact (not_not_intro rfl)) | omega) ?_); (first | (refine xlQ (z := ?_)) | (refine xfQ (z := ?_)) | (refine xnQ (z := ?_)) | (refine xiQ (z := ?_)))) | (with_reducible refine Tr.skip ?_) | (refine Tr.cond_f rfl (by first | (with_reducible assumption) | (with_reducible rfl) | (with_reducible exact (not_not_intro rfl)) | omega) ?_)))
  refine Tr.cells (cs' := byteV (hdF f.kind.toNat f.body.length)) (by repeat (first | exact Upd.here | apply Upd.there)) (rhd_cells k1 k2) ?_
  refine Tr.box_own 1 6 (by repeat (first | exact Upd.here | apply Upd.there)) rfl (byteV_one _) (by simp [maxLen]) ?_
  ((refine Tr.step rfl ?_))
  refine Exec.append (news := byteV f.body) rfl rfl (tysOk.get rfl) rfl (tysOk.get rfl) rfl rfl rfl rfl (by repeat (first | exact Del.here | apply Del.there)) (Src.row hcap.2.2.2) (by simp) (byteV_one _) (by omega) (by omega) rfl (fun A2 c2 hc2 => ?_)
  rw [← byteV_append, show 6 + f.body.length = (preF f).length by rw [preF_length]; omega]
  show Tr _ ⟨_, _, _, _, ownS 5 1 A2 _ c2 (byteV (preF f)) :: _⟩ _
  have hpl := preF_length f
  (repeat (first | ((with_reducible refine Tr.step rfl ?_); (first | (refine xmQ (z := ?_)) | (refine xaQ (z := ?_)))) | (with_reducible first | apply Tr.next | apply Tr.seq | apply Tr.region | apply Tr.nil)))
  ((refine Tr.step rfl ?_))
  refine Exec.call (A := [ownS 5 1 A2 (preF f).length c2 (byteV (preF f))]) rfl (rtagged_own M A2 c2 (preF f) hc2 (by omega)) (List.Perm.refl _) rfl ?_
  rintro _ _ _ hm1 ⟨rfl, rfl, rfl⟩
  have htl := TF_len (preF f)
  have hbl : (byteV (TF (preF f))).length = 32 := by simpa using htl
  have hEB : (encB TF f).length = (preF f).length + 4 := by rw [encB_length TF_len, preF_length]
  have e2 : encB TF f = preF f ++ (TF (preF f)).take 4 := rfl
  generalize TF (preF f) = d at htl hbl e2 ⊢
  obtain ⟨x0, x1, x2, x3, dr, rfl⟩ := four (b := d) (by omega)
  (repeat (first | ((with_reducible refine Tr.step rfl ?_); (first | (refine xmQ (z := ?_)) | (refine xlQ (z := ?_)) | ((with_reducible refine Knd.store ?_); (refine Exec.storeW rfl rfl (tysOk.get rfl) (by repeat (first | exact Upd.here | apply Upd.there)) (by first | rfl | assumption) (by first | rfl | assumption) (by first | exact AllOne.bytes _ | exact AllOne.words _ | exact (by repeat (first | exact AllOne.nil | refine AllOne.cons (by first | rfl | assumption) ?_))) ?_)) | ((with_reducible refine Knd.alloc ?_); (refine Exec.alloc (tysOk.get rfl) rfl rfl (fun b => ?_))) | ((with_reducible refine Knd.indexAddr ?_); (refine Exec.stab rfl (Stab.indexArrB0 rfl rfl (tysOk.get rfl) rfl (tysOk.get rfl) rfl (by omega) (by omega)) rfl ?_)) | ((with_reducible refine Knd.buildSlice ?_); (refine Exec.buildSlice (tysOk.get rfl) rfl (tysOk.get rfl) rfl rfl rfl rfl rfl (by repeat (first | exact BuildP.nil | ((apply BuildP.one); (rfl); (rfl); (first | rfl | assumption); (repeat (first | exact SetL.z | apply SetL.s))) | ((apply BuildP.many); (rfl); (rfl); (rfl); (rfl); (repeat (first | exact PutL.nil | ((apply PutL.cons); (repeat (first | exact SetL.z | apply SetL.s)))))))) rfl (fun b => ?_))))) | (with_reducible first | apply Tr.next | apply Tr.seq | apply Tr.region | apply Tr.nil)))
  ((refine Tr.step rfl ?_))
  refine Exec.append (news := byteV [x0, x1, x2, x3]) rfl rfl (tysOk.get rfl) rfl (tysOk.get rfl) rfl rfl rfl rfl (by repeat (first | exact Del.here | apply Del.there)) (Src.box (by repeat (first | exact Has.here | apply Has.there))) rfl (byteV_one _) (by omega) (by omega) rfl (fun A3 c3 hc3 => ?_)
  have e3 : byteV (preF f) ++ byteV [x0, x1, x2, x3] = byteV (encB TF f) := by rw [e2, byteV_append]; rfl
  rw [e3, show (preF f).length + 4 = (encB TF f).length by rw [hEB]]
  (repeat (first | ((with_reducible refine Tr.step rfl ?_); (with_reducible refine Knd.assign ?_); (refine xaQ (z := ?_))) | (with_reducible first | apply Tr.next | apply Tr.nil | apply Tr.ret)))
  refine pbQ (r := ownS 5 1 A3 _ c3 _) (k := fun M' hm hok => ?_)
  (refine dnQ (hL := by exact ⟨[_, _, _], rfl⟩) (k := ⟨rfl, ?_⟩))
  exact ⟨A3, c3, rfl, BSl.ofOwn hok rfl hc3⟩
end Go.Proofs.YtghjhdbmkilakaaGreatDoor

/-
  Frames: the reference's first, Read and Scan.
  Conditions: none.
-/
namespace Go.Proofs.YtghjhdbmkilakaaGreatDoor
open Go Bf
attribute [local irreducible] Tr Exec Stab HasTy Go.Addr.add IntKind.wrap
def RFirst2 (M : Mem) (r : Value) (o : Option (Frm × Nat)) : Prop := match o with
  | none => r = .tuple #[.agg #[.int .i64 0, .slice none 0 0], .int .i64 0]
  | some (f, n) => ∃ A c, r = .tuple #[.agg #[.int .i64 f.kind, .slice A f.body.length c], .int .i64 n] ∧ BSl M (.slice A f.body.length c) f.body
set_option maxHeartbeats 4000000 in
theorem rfirst_fn (M : Mem) (A : Option Addr) (c : Nat) (bs : List UInt8) (hb : BSl M (.slice A bs.length c) bs) :
    Fn0 Tryz.prog 26 [.slice A bs.length c] M (fun r M' => RFirst2 M' r (firstF TF bs)) := by
  have hlen := hb.len_le
  have hcap := hb.cap
  refine Fn.intro Tryz.func26 rfl rfl Tryz.ntmps26 rfl fun E F => ?_
  by_cases c1 : bs.length < 10
  · have e : firstF TF bs = none := first_nil_of c1
    rw [e]
    (repeat (first | ((with_reducible refine Tr.step rfl ?_); (first | (refine xmQ (z := ?_)) | (refine xaQ (z := ?_)) | (refine xnQ (z := ?_)) | (refine xiQ (z := ?_)) | ((with_reducible refine Knd.pick ?_); (refine Exec.stab rfl (Stab.pick_td rfl (by omega) rfl) rfl ?_)) | (refine xWQ (z := ?_)) | ((with_reducible refine Knd.alloc ?_); (refine Exec.alloc (tysOk.get rfl) rfl rfl (fun b => ?_))) | ((with_reducible refine Knd.build ?_); (refine Exec.stab rfl (Stab.build tysOk rfl rfl rfl rfl (by repeat (exact BuildP.nil))) rfl ?_)))) | (with_reducible first | apply Tr.next | apply Tr.seq | apply Tr.region | apply Tr.nil) | (refine Tr.guard_n' rfl rfl rfl (by first | (with_reducible assumption) | omega) rfl rfl ?_) | (with_reducible first | apply Tr.ret | apply Tr.then_ret) | (refine Tr.cond_bt rfl (by (with_reducible rfl)) ?_)))
    (refine Tr.done (by first | exact .inl rfl | exact .inr rfl) rfl (by repeat (first | exact RVs.nil | (apply RVs.cons; (first | exact RV.tmp rfl | exact RV.cellW (by rfl) (tysOk.get (by rfl)) (by rfl) (by repeat (first | exact Has.here | apply Has.there)) (by first | rfl | assumption))))) (by first | exact Mem.le.refl _ | assumption) (by exact ⟨[_], rfl⟩) ⟨rfl, ?_⟩)
    rfl
  obtain ⟨hA, h0⟩ := getB hb 0 (by omega)
  obtain ⟨-, h1⟩ := getB hb 1 (by omega)
  obtain ⟨-, h2⟩ := getB hb 2 (by omega)
  obtain ⟨-, h3⟩ := getB hb 3 (by omega)
  obtain ⟨-, h4⟩ := getB hb 4 (by omega)
  obtain ⟨-, h5⟩ := getB hb 5 (by omega)
  by_cases c2 : ((bs.getD 0 0).toNat : Int) ≠ 170
  · have e : firstF TF bs = none := first_mark (fun h => c2 (by rw [h]; rfl))
    rw [e]
    (repeat (first | ((with_reducible refine Tr.step rfl ?_); (first | (refine xmQ (z := ?_)) | (refine xaQ (z := ?_)) | (refine xnQ (z := ?_)) | (refine xiQ (z := ?_)) | ((with_reducible refine Knd.pick ?_); (refine Exec.stab rfl (Stab.pick_fd rfl (by omega) rfl) rfl ?_)) | (refine xWQ (z := ?_)) | ((with_reducible refine Knd.alloc ?_); (refine Exec.alloc (tysOk.get rfl) rfl rfl (fun b => ?_))) | ((with_reducible refine Knd.build ?_); (refine Exec.stab rfl (Stab.build tysOk rfl rfl rfl rfl (by repeat (exact BuildP.nil))) rfl ?_)))) | (with_reducible first | apply Tr.next | apply Tr.seq | apply Tr.region | apply Tr.nil) | ((refine Tr.guard_y' rfl rfl rfl (by first | (with_reducible assumption) | omega) ?_); (first | (refine xmQ (z := ?_)) | (refine xMQ (z := ?_)) | (refine xiQ (z := ?_)) | (refine xxQ (z := ?_)))) | (with_reducible first | apply Tr.ret | apply Tr.then_ret) | (refine Tr.cond_t rfl (by (with_reducible assumption)) ?_)))
    (refine Tr.done (by first | exact .inl rfl | exact .inr rfl) rfl (by repeat (first | exact RVs.nil | (apply RVs.cons; (first | exact RV.tmp rfl | exact RV.cellW (by rfl) (tysOk.get (by rfl)) (by rfl) (by repeat (first | exact Has.here | apply Has.there)) (by first | rfl | assumption))))) (by first | exact Mem.le.refl _ | assumption) (by exact ⟨[_], rfl⟩) ⟨rfl, ?_⟩)
    rfl
  have u1 := (bs.getD 1 0).toNat_lt
  have u2 := (bs.getD 2 0).toNat_lt
  have u3 := (bs.getD 3 0).toNat_lt
  have u4 := (bs.getD 4 0).toNat_lt
  have u5 := (bs.getD 5 0).toNat_lt
  have h170 : bs.getD 0 0 = 170 := by
    apply UInt8.toNat_inj.1
    show (bs.getD 0 0).toNat = 170
    omega
  (repeat (first | ((with_reducible refine Tr.step rfl ?_); (first | (refine xmQ (z := ?_)) | (refine xaQ (z := ?_)) | (refine xnQ (z := ?_)) | (refine xiQ (z := ?_)) | ((with_reducible refine Knd.pick ?_); (refine Exec.stab rfl (Stab.pick_fd rfl (by omega) rfl) rfl ?_)) | ((with_reducible refine Knd.alloc ?_); (refine Exec.alloc (tysOk.get rfl) rfl rfl (fun b => ?_))))) | (with_reducible first | apply Tr.next | apply Tr.seq | apply Tr.region | apply Tr.nil) | ((refine Tr.guard_y' rfl rfl rfl (by first | (with_reducible assumption) | omega) ?_); (first | (refine xmQ (z := ?_)) | (refine xMQ (z := ?_)) | (refine xiQ (z := ?_)) | (refine xxQ (z := ?_)))) | (with_reducible refine Tr.skip ?_) | (refine Tr.cond_f rfl (by (with_reducible assumption)) ?_)))
  (((apply Tr.draw); (kernel_rfl)); (refine tkQ 0 (hB := by exact fun _ h => h) (s := by exact Stab.move rfl) (h := ?_)); (refine tkQ 5 (s := by exact Stab.move rfl) (h := ?_)); (refine tkQ 11 (s := by exact Stab.move rfl) (h := ?_)); (refine tkQ 17 (s := by exact Stab.move rfl) (h := ?_)); (refine tkQ 1 (s := by exact sxQ) (h := ?_)); (refine tkQ 6 (s := by exact sxQ) (h := ?_)); (refine tkQ 12 (s := by exact sxQ) (h := ?_)); (refine tkQ 18 (s := by exact sxQ) (h := ?_)); (refine tkQ 2 (s := by exact sMQ) (h := ?_)); (refine tkQ 7 (s := by exact sMQ) (h := ?_)); (refine tkQ 13 (s := by exact sMQ) (h := ?_)); (refine tkQ 19 (s := by exact sMQ) (h := ?_)); (refine tkQ 3 (s := by exact Stab.convi rfl (tysOk.get rfl) (tysOk.get rfl) rfl rfl (by omega)) (h := ?_)); (refine tkQ 8 (s := by exact Stab.convi rfl (tysOk.get rfl) (tysOk.get rfl) rfl rfl (by omega)) (h := ?_)); (refine tkQ 14 (s := by exact Stab.convi rfl (tysOk.get rfl) (tysOk.get rfl) rfl rfl (by omega)) (h := ?_)); (refine tkQ 20 (s := by exact Stab.convi rfl (tysOk.get rfl) (tysOk.get rfl) rfl rfl (by omega)) (h := ?_)); (refine tkQ 4 (s := by exact Stab.muli rfl rfl (by omega)) (h := ?_)); (refine tkQ 9 (s := by exact Stab.addi rfl rfl (by omega)) (h := ?_)); (refine tkQ 10 (s := by exact Stab.muli rfl rfl (by omega)) (h := ?_)); (refine tkQ 15 (s := by exact Stab.addi rfl rfl (by omega)) (h := ?_)); (refine tkQ 16 (s := by exact Stab.muli rfl rfl (by omega)) (h := ?_)); (refine tkQ 21 (s := by exact Stab.addi rfl rfl (by omega)) (h := ?_)); (refine tkQ 22 (s := by exact Stab.assign rfl) (h := ?_)); (refine TrA.done (by kernel_rfl) ?_))
  have em : ((((bs.getD 2 0).toNat : Int) * 256 + ((bs.getD 3 0).toNat : Int)) * 256 + ((bs.getD 4 0).toNat : Int)) * 256 + ((bs.getD 5 0).toNat : Int) = (manyF bs : Int) := by unfold manyF; omega
  rw [em]
  have hun : firstF TF bs = if 65536 < manyF bs ∨ bs.length < manyF bs + 10 then none
      else if (TF (bs.take (6 + manyF bs))).take 4 = (bs.drop (6 + manyF bs)).take 4 then some (⟨((bs.getD 1 0).toNat : Int), (bs.drop 6).take (manyF bs)⟩, manyF bs + 10) else none := by
    rw [firstF, if_neg]
    rintro (h | h)
    · exact c1 h
    · exact h h170
  have hiff := first_iff (T := TF) h170 (by omega)
  rw [hun]
  clear h0 h2 h3 h4 h5 hun em
  generalize manyF bs = m at hiff ⊢
  refine Tr.less [(4, .int .i64 (m : Int)), (3, .int .i64 0), (2, .pointer (some ⟨b, 0, none⟩)), (0, .slice A bs.length c)] (box b 40 [.int .i64 0, .slice none 0 0] :: ([] ++ F)) (by repeat (first | exact SubFr.nil | refine SubFr.cons rfl ?_)) (by repeat (first | exact DropL.refl | apply DropL.skip)) ?_
  by_cases c3 : (65536 : Int) < (m : Int)
  · rw [if_pos (.inl (by omega))]
    (repeat (first | ((with_reducible refine Tr.step rfl ?_); (first | (refine xmQ (z := ?_)) | (refine xaQ (z := ?_)) | (refine xiQ (z := ?_)) | ((with_reducible refine Knd.pick ?_); (refine Exec.stab rfl (Stab.pick_td rfl (by (with_reducible assumption)) rfl) rfl ?_)) | (refine xWQ (z := ?_)) | ((with_reducible refine Knd.build ?_); (refine Exec.stab rfl (Stab.build tysOk rfl rfl rfl rfl (by repeat (exact BuildP.nil))) rfl ?_)))) | (with_reducible first | apply Tr.next | apply Tr.seq | apply Tr.region | apply Tr.nil) | (refine Tr.guard_n' rfl rfl rfl (by (with_reducible assumption)) rfl rfl ?_) | (with_reducible first | apply Tr.ret | apply Tr.then_ret) | (refine Tr.cond_bt rfl (by (with_reducible rfl)) ?_)))
    (refine Tr.done (by first | exact .inl rfl | exact .inr rfl) rfl (by repeat (first | exact RVs.nil | (apply RVs.cons; (first | exact RV.tmp rfl | exact RV.cellW (by rfl) (tysOk.get (by rfl)) (by rfl) (by repeat (first | exact Has.here | apply Has.there)) (by first | rfl | assumption))))) (by first | exact Mem.le.refl _ | assumption) (by exact ⟨[_], rfl⟩) ⟨rfl, ?_⟩)
    rfl
  by_cases c4 : (bs.length : Int) < (m : Int) + 10
  · rw [if_pos (.inr (by omega))]
    (repeat (first | ((with_reducible refine Tr.step rfl ?_); (first | (refine xmQ (z := ?_)) | (refine xaQ (z := ?_)) | (refine xiQ (z := ?_)) | ((with_reducible refine Knd.pick ?_); (refine Exec.stab rfl (Stab.pick_fd rfl (by (with_reducible assumption)) rfl) rfl ?_)) | (refine xWQ (z := ?_)) | ((with_reducible refine Knd.build ?_); (refine Exec.stab rfl (Stab.build tysOk rfl rfl rfl rfl (by repeat (exact BuildP.nil))) rfl ?_)))) | (with_reducible first | apply Tr.next | apply Tr.seq | apply Tr.region | apply Tr.nil) | ((refine Tr.guard_y' rfl rfl rfl (by (with_reducible assumption)) ?_); (first | (refine xmQ (z := ?_)) | (refine xnQ (z := ?_)) | ((with_reducible refine Knd.binOp ?_); (first | (refine xdQ (z := ?_)) | (refine xiQ (z := ?_)))))) | (with_reducible first | apply Tr.ret | apply Tr.then_ret) | (refine Tr.cond_t rfl (by (with_reducible assumption)) ?_)))
    (refine Tr.done (by first | exact .inl rfl | exact .inr rfl) rfl (by repeat (first | exact RVs.nil | (apply RVs.cons; (first | exact RV.tmp rfl | exact RV.cellW (by rfl) (tysOk.get (by rfl)) (by rfl) (by repeat (first | exact Has.here | apply Has.there)) (by first | rfl | assumption))))) (by first | exact Mem.le.refl _ | assumption) (by exact ⟨[_], rfl⟩) ⟨rfl, ?_⟩)
    rfl
  rw [if_neg (by omega)]
  replace hiff := hiff (by omega) (by omega)
  generalize ho : (if (TF (bs.take (6 + m))).take 4 = (bs.drop (6 + m)).take 4 then some ((⟨((bs.getD 1 0).toNat : Int), (bs.drop 6).take m⟩ : Frm), m + 10) else none) = o
  have e6 : (6 + (m : Int)).toNat = 6 + m := by omega
  have hbody := hb.sub (l := 6) (k := 6 + m) (m := c) (by omega) (by omega) (by omega) (Nat.le_refl _)
  rw [show 6 + m - 6 = m by omega] at hbody
  have hbl2 : ((bs.drop 6).take m).length = m := by rw [List.length_take, List.length_drop]; omega
  have hpre := hb.pre (k := m + 10) (m := c) (by omega) (by omega) (Nat.le_refl _)
  have hfok : okF ⟨((bs.getD 1 0).toNat : Int), (bs.drop 6).take m⟩ := ⟨⟨by show (0 : Int) ≤ ((bs.getD 1 0).toNat : Int); omega, by show ((bs.getD 1 0).toNat : Int) ≤ 255; omega⟩, by show ((bs.drop 6).take m).length ≤ 65536; omega⟩
  have henc : encFr ⟨((bs.getD 1 0).toNat : Int), (bs.drop 6).take m⟩ = (encB TF ⟨((bs.getD 1 0).toNat : Int), (bs.drop 6).take m⟩, 0) := by rw [encFr, if_pos hfok]
  have hbd2 : BSl M (.slice (if c = 6 then A else Option.map (fun x => x.add (6 * 1)) A) (Frm.mk ((bs.getD 1 0).toNat : Int) ((bs.drop 6).take m)).body.length (c - 6)) (Frm.mk ((bs.getD 1 0).toNat : Int) ((bs.drop 6).take m)).body := by
    show BSl M (.slice _ ((bs.drop 6).take m).length _) _
    rw [hbl2]; exact hbody
  (repeat (first | ((with_reducible refine Tr.step rfl ?_); (first | (refine xmQ (z := ?_)) | (refine xiQ (z := ?_)) | ((with_reducible refine Knd.pick ?_); (refine Exec.stab rfl (Stab.pick_fd rfl (by (with_reducible assumption)) rfl) rfl ?_)))) | (with_reducible first | apply Tr.next | apply Tr.seq | apply Tr.region | apply Tr.nil) | ((refine Tr.guard_y' rfl rfl rfl (by (with_reducible assumption)) ?_); (first | (refine xmQ (z := ?_)) | (refine xnQ (z := ?_)) | ((with_reducible refine Knd.binOp ?_); (first | (refine xdQ (z := ?_)) | (refine xiQ (z := ?_)))))) | (with_reducible refine Tr.skip ?_) | (refine Tr.cond_f rfl (by (with_reducible assumption)) ?_)))
  (((apply Tr.draw); (kernel_rfl)); (refine tkQ 0 (hB := by exact fun _ h => h) (s := by exact Stab.move rfl) (h := ?_)); (refine tkQ 4 (s := by exact Stab.move rfl) (h := ?_)); (refine tkQ 5 (s := by exact Stab.move rfl) (h := ?_)); (refine tkQ 1 (s := by exact sxQ) (h := ?_)); (refine tkQ 6 (s := by exact Stab.addi rfl rfl (by omega)) (h := ?_)); (refine tkQ 2 (s := by exact sMQ) (h := ?_)); (refine tkQ 7 (s := by exact Stab.slice_lh rfl rfl rfl (tysOk.get rfl) rfl (tysOk.get rfl) rfl (by omega) (by omega) (by omega)) (h := ?_)))
  rw [e6, show 6 + m - Int.toNat 6 = ((bs.drop 6).take m).length by rw [hbl2]; show 6 + m - 6 = m; omega]
  ((refine tkQ 3 (s := by exact Stab.convi rfl (tysOk.get rfl) (tysOk.get rfl) rfl rfl (by omega)) (h := ?_)); (refine tkQ 8 (s := by exact Stab.build tysOk rfl rfl rfl rfl (by repeat (first | exact BuildP.nil | ((apply BuildP.one); (rfl); (rfl); (first | rfl | assumption); (repeat (first | exact SetL.z | apply SetL.s)))))) (h := ?_)); (refine TrA.eff 9 rfl (by kernel_rfl) (by exact .inl rfl) ?_); (((refine Knd.alloc ?_); ((refine Exec.alloc (tysOk.get rfl) rfl rfl (fun b => ?_))))); (refine ⟨(by first | exact Mem.le.refl _ | assumption), (by exact (Sub.mem (by repeat (first | exact Sub.refl | apply Sub.cons)))), ?_⟩); (refine TrA.eff 10 rfl (by kernel_rfl) (by exact .inl rfl) ?_); (((refine Knd.store ?_); ((refine xWQ (z := ?_))))); (refine ⟨(by first | exact Mem.le.refl _ | assumption), (by exact (Sub.mem (by repeat (first | exact Sub.refl | apply Sub.cons)))), ?_⟩); (refine TrA.done (by kernel_rfl) ?_))
  generalize hg : (if c = Int.toNat 6 then A else Option.map (fun x => x.add (Int.toNat 6 * 1)) A) = A6
  replace hg : (if c = 6 then A else Option.map (fun x => x.add (6 * 1)) A) = A6 := hg
  rw [hg] at hbd2
  (repeat (first | ((with_reducible refine Tr.step rfl ?_); (with_reducible refine Knd.load ?_); (refine xwQ (z := ?_))) | (with_reducible first | apply Tr.next | apply Tr.seq | apply Tr.region)))
  ((refine Tr.step rfl ?_)); refine Exec.call0 rfl (rencode_fr M _ _ ⟨((bs.getD 1 0).toNat : Int), (bs.drop 6).take m⟩ hbd2) rfl ?_
  rintro r M1 hm1 ⟨A5, c5, rfl, hb5⟩
  rw [henc] at hb5 ⊢
  simp only at hb5 ⊢
  generalize hX : encB TF ⟨((bs.getD 1 0).toNat : Int), (bs.drop 6).take m⟩ = X at hb5 hiff ⊢
  have hpre1 := hpre.mono hm1
  (repeat (first | ((with_reducible refine Tr.step rfl ?_); (first | (refine xmQ (z := ?_)) | (refine xaQ (z := ?_)) | ((with_reducible refine Knd.extract ?_); (refine Exec.stab rfl (Stab.extract rfl rfl) rfl ?_)))) | (with_reducible first | apply Tr.next | apply Tr.seq | apply Tr.nil)))
  (((apply Tr.draw); (kernel_rfl)); (refine tkQ 0 (hB := by exact fun _ h => h) (s := by exact Stab.move rfl) (h := ?_)); (refine tkQ 2 (s := by exact Stab.move rfl) (h := ?_)); (refine tkQ 3 (s := by exact Stab.move rfl) (h := ?_)); (refine tkQ 1 (s := by exact Stab.bstrB rfl (tysOk.get rfl) (tysOk.get rfl) rfl rfl (tysOk.get rfl) rfl (by assumption)) (h := ?_)); (refine tkQ 4 (s := by exact Stab.addi rfl rfl (by omega)) (h := ?_)); (refine tkQ 5 (s := by exact Stab.slice_h rfl rfl (tysOk.get rfl) rfl (tysOk.get rfl) (by omega) (by omega)) (h := ?_)))
  rw [show ((m : Int) + 10).toNat = m + 10 by omega]
  ((refine tkQ 6 (s := by exact Stab.bstrB rfl (tysOk.get rfl) (tysOk.get rfl) rfl rfl (tysOk.get rfl) rfl (by assumption)) (h := ?_)); (refine tkQ 7 (s := by exact Stab.strne rfl rfl) (h := ?_)); (refine TrA.done (by kernel_rfl) ?_))
  show Tr _ ⟨_, (71, .bool (decide (¬ X = bs.take (m + 10)))) :: _, _, _, _⟩ _
  by_cases c5 : X = bs.take (m + 10)
  rotate_left
  · rw [if_neg (fun h => c5 (hiff.2 h))] at ho
    subst ho
    (repeat (first | ((with_reducible refine Tr.step rfl ?_); (first | (refine xaQ (z := ?_)) | (refine xWQ (z := ?_)) | ((with_reducible refine Knd.build ?_); (refine Exec.stab rfl (Stab.build tysOk rfl rfl rfl rfl (by repeat (exact BuildP.nil))) rfl ?_)))) | (with_reducible first | apply Tr.next | apply Tr.seq | apply Tr.region | apply Tr.nil | apply Tr.ret | apply Tr.then_ret) | (refine Tr.cond_t rfl (by (with_reducible assumption)) ?_)))
    (refine Tr.done (by first | exact .inl rfl | exact .inr rfl) rfl (by repeat (first | exact RVs.nil | (apply RVs.cons; (first | exact RV.tmp rfl | exact RV.cellW (by rfl) (tysOk.get (by rfl)) (by rfl) (by repeat (first | exact Has.here | apply Has.there)) (by first | rfl | assumption))))) (by first | exact Mem.le.refl _ | assumption) (by exact ⟨[_, _], rfl⟩) ⟨rfl, ?_⟩)
    rfl
  rw [if_pos (hiff.1 c5)] at ho
  subst ho
  have c5n : ¬ ¬ X = bs.take (m + 10) := fun h => h c5
  rw [show (m : Int) + 10 = ((m + 10 : Nat) : Int) by omega]
  (repeat (first | ((with_reducible refine Tr.step rfl ?_); (first | (refine xmQ (z := ?_)) | (refine xaQ (z := ?_)) | (refine xwQ (z := ?_)) | (refine xdQ (z := ?_)) | (refine xWQ (z := ?_)))) | (with_reducible first | apply Tr.next | apply Tr.seq | apply Tr.region | apply Tr.nil | apply Tr.skip | apply Tr.ret) | (refine Tr.cond_f rfl (by (with_reducible assumption)) ?_)))
  (refine Tr.done (by first | exact .inl rfl | exact .inr rfl) rfl (by repeat (first | exact RVs.nil | (apply RVs.cons; (first | exact RV.tmp rfl | exact RV.cellW (by rfl) (tysOk.get (by rfl)) (by rfl) (by repeat (first | exact Has.here | apply Has.there)) (by first | rfl | assumption))))) (by first | exact Mem.le.refl _ | assumption) (by exact ⟨[_, _], rfl⟩) ⟨rfl, ?_⟩)
  exact ⟨_, _, rfl, hbd2.mono hm1⟩
end Go.Proofs.YtghjhdbmkilakaaGreatDoor

/-
  Frames: the reference's Read and Scan, and SameFrames.
  Conditions: none.
-/
namespace Go.Proofs.YtghjhdbmkilakaaGreatDoor
open Go Bf
attribute [local irreducible] Tr Exec Stab HasTy Go.Addr.add IntKind.wrap
theorem scan_first {T : List UInt8 → List UInt8} {b : List UInt8} {f : Frm} {n : Nat} (h : firstF T b = some (f, n)) : scanF T b = (f :: (scanF T (b.drop n)).1, (scanF T (b.drop n)).2) := by
  obtain ⟨-, h2, h3, -⟩ := first_some h
  have hr := read_cons h
  have hne : (readF T b).2 ≠ 0 := by rw [hr]; show n + _ ≠ 0; omega
  rw [scan_found hne, hr]
  simp only
  rw [← List.drop_drop]
  by_cases c : (readF T (b.drop n)).2 = 0
  · obtain ⟨-, -, -, -, s5, -⟩ := read_spec (T := T) _ (b.drop n) (Nat.le_refl _)
    rw [s5 c, c]
    rfl
  · rw [scan_found (b := b.drop n) c]
    rfl
theorem scan_miss {T : List UInt8 → List UInt8} {b : List UInt8} (hb : b ≠ []) (h : firstF T b = none) : scanF T b = ((scanF T (b.drop 1)).1, (scanF T (b.drop 1)).2 + 1) :=
  scan_lost hb (by rw [read_none h])
end Go.Proofs.YtghjhdbmkilakaaGreatDoor

/-
  Frames, plain: the chapter's examples.
  Conditions: none.
-/
namespace Go.Proofs.YtghjhdbmkilakaaGreatDoor
open Go Bf
def fA : Frm := ⟨3, [7]⟩
theorem fA_ok : okF fA := ⟨⟨by decide, by decide⟩, by decide⟩
def bA : List UInt8 := encB TF fA
theorem bA_len : bA.length = 11 := encB_length TF_len fA
theorem bA_eq : bA = [170, 3, 0, 0, 0, 1, 7] ++ (TF [170, 3, 0, 0, 0, 1, 7]).take 4 := rfl
theorem s_enc : encFr fA = (bA, 0) := by rw [encFr, if_pos fA_ok]; rfl
theorem s_enc0 : encFr ⟨256, []⟩ = ([], 470) := by rw [encFr, if_neg (fun h => absurd h.1.2 (by decide))]
theorem s_first (r : List UInt8) : firstF TF (bA ++ r) = some (fA, 11) := by rw [bA, first_enc TF_len fA_ok, ← bA, bA_len]
theorem s_read1 : readF TF (bA ++ [5]) = ([fA], 11) := by
  rw [read_cons (s_first [5])]
  have e : (bA ++ [5]).drop 11 = [5] := by rw [← bA_len, List.drop_left]
  rw [e, read_none (first_nil_of (by decide))]
  rfl
theorem s_drop1 : (bA ++ [5]).drop 11 = [5] := by rw [← bA_len, List.drop_left]
theorem s_read2 : readF TF (bA.take 10) = ([], 0) := by
  have := first_cut TF_len fA_ok [] (k := 10) (by rw [encB_length TF_len]; decide)
  rw [List.append_nil] at this
  exact read_none this
theorem s_read3 : readF TF [] = ([], 0) := read_none (first_nil_of (by decide))
theorem s_scan1 : scanF TF [1, 2] = ([], 2) := scan_clean [1, 2] (by decide) []
theorem s_scan2 : scanF TF (9 :: bA) = ([fA], 1) := by
  have h1 : firstF TF (9 :: bA) = none := first_mark (by decide)
  have h2 := s_first []
  rw [List.append_nil] at h2
  rw [scan_miss (by simp) h1]
  show ((scanF TF bA).1, (scanF TF bA).2 + 1) = _
  rw [scan_first h2]
  have e : bA.drop 11 = [] := List.drop_eq_nil_of_le (by rw [bA_len]; exact Nat.le_refl _)
  rw [e, scan_nil]
def mA : Msg := ⟨3, [1, 2, 3, 0, 0, 0, 0], [4], [], [⟨[5], [[6, -1]]⟩], List.replicate 32 0⟩
def mZ : Msg := ⟨0, [0, 0, 0, 0, 0, 0, 0], [], [], [], List.replicate 32 0⟩
theorem s_nums {l : List Int} (h : ∀ x ∈ l, -9223372036854775808 ≤ x ∧ x ≤ 9223372036854775807) : Ok64 (numsV l) := ok_lV fun x hx => by
  obtain ⟨n, hn, rfl⟩ := List.mem_map.1 hx
  exact ok_nV (h n hn)
theorem s_msgW {k : Int} {h a b : List Int} {c : List Rel} {s : List UInt8} (hs : s.length = 32) (hh : h.length = 7) (h1 : ∀ x ∈ h, -9223372036854775808 ≤ x ∧ x ≤ 9223372036854775807) (h2 : Ok64 (numsV a)) (h3 : Ok64 (numsV b)) (h4 : ∀ r ∈ c, Ok64 (relV r)) : MsgW ⟨k, h, a, b, c, s⟩ :=
  ⟨hs, hh, ok_lV fun x hx => by
    rcases List.mem_append.1 hx with hx | hx
    · obtain ⟨n, hn, rfl⟩ := List.mem_map.1 hx
      exact ok_nV (h1 n hn)
    · simp only [List.mem_cons, List.not_mem_nil, or_false] at hx
      rcases hx with rfl | rfl | rfl | rfl
      · exact h2
      · exact h3
      · exact ok_lV fun y hy => by obtain ⟨r, hr, rfl⟩ := List.mem_map.1 hy; exact h4 r hr
      · exact .mk (by omega) (by intro z hz; cases hz)⟩
theorem mA_W : MsgW mA := s_msgW (by decide) rfl (by decide) (s_nums (by decide)) (s_nums (by decide)) (fun r hr => by
  rw [List.mem_singleton.1 hr]
  refine ok_lV fun x hx => ?_
  rcases List.mem_cons.1 hx with rfl | hx
  · exact s_nums (by decide)
  · rw [List.mem_singleton.1 hx]
    exact ok_lV fun y hy => by obtain ⟨z, hz, rfl⟩ := List.mem_map.1 hy; rw [List.mem_singleton.1 hz]; exact s_nums (by decide))
theorem mZ_W : MsgW mZ := s_msgW (by decide) rfl (by decide) (s_nums (by decide)) (s_nums (by decide)) (fun r hr => by cases hr)
theorem mA_right : rightM mA := by decide
theorem mZ_right : ¬ rightM mZ := by decide
theorem mA_len : (enc (msgV mA)).length ≤ 65536 := by
  have o := mA_W
  have hr : (enc (relV ⟨[5], [[6, -1]]⟩)).length ≤ 1463 := by
    have ho : Ok64 (relV ⟨[5], [[6, -1]]⟩) := o.rels.mem (by show _ ∈ mA.rels; exact List.mem_singleton.2 rfl)
    have := enc_lV_le (l := [numsV [5], lV ([[6, -1]].map numsV)]) (K := 726) (n := 2) (by decide) (by decide) (fun x hx => by
      have ho1 := ho.l x hx
      rcases List.mem_cons.1 hx with rfl | hx
      · have := enc_nums_le (l := [5]) (by decide) ho1; omega
      · rw [List.mem_singleton.1 hx] at ho1 ⊢
        have := enc_lV_le (l := [[6, -1]].map numsV) (K := 715) (n := 1) (by decide) (by decide) (fun y hy => by
          have ho2 := ho1.l y hy
          obtain ⟨z, hz, rfl⟩ := List.mem_map.1 hy
          rw [List.mem_singleton.1 hz] at ho2 ⊢
          exact enc_nums_le (by decide) ho2)
        omega)
    exact this
  have := enc_lV_le (l := mA.head.map nV ++ [numsV mA.labels, numsV mA.verdicts, lV (mA.rels.map relV), .mk 2 0 mA.sl []]) (K := 1474) (n := 11) (by decide) (by decide) (fun x hx => by
    have ho2 := o.2.2.l x hx
    rcases List.mem_append.1 hx with hx | hx
    · obtain ⟨y, -, rfl⟩ := List.mem_map.1 hx
      have := enc_nV_le ho2; omega
    · simp only [List.mem_cons, List.not_mem_nil, or_false] at hx
      rcases hx with rfl | rfl | rfl | rfl
      · have := enc_nums_le (l := mA.labels) (by decide) ho2; omega
      · have := enc_nums_le (l := mA.verdicts) (by decide) ho2; omega
      · have := enc_lV_le (l := mA.rels.map relV) (K := 1463) (n := 1) (by decide) (by decide) (fun y hy => by
          obtain ⟨z, hz, rfl⟩ := List.mem_map.1 hy
          rw [List.mem_singleton.1 hz]
          exact hr)
        omega
      · rw [enc2 (show (Val.mk 2 0 mA.sl []).k = 2 from rfl), List.length_cons, List.length_append]
        show (num mA.sl.length).length + mA.sl.length + 1 ≤ _
        have hsl : mA.sl.length = 32 := by decide
        have := num_len_le (u := mA.sl.length) (by omega)
        omega)
  show (enc (lV _)).length ≤ _
  omega
def xA : List UInt8 := encB TF ⟨3, enc (msgV mA)⟩
theorem s_pack : packF TF mA = (xA, 0) := by rw [packF, if_pos ⟨mA_right, mA_len⟩]; rfl
theorem xA_pos : 0 < xA.length := by rw [xA, encB_length TF_len]; omega
theorem xA_len : xA.length ≤ 65546 := by rw [xA, encB_length TF_len]; have := mA_len; show (enc (msgV mA)).length + 10 ≤ _; omega
theorem s_unpack : unpackF TF xA = some mA := unpack_pack TF_len mA_W s_pack
theorem s_twice : unpackF TF (xA ++ xA) = none := unpack_more TF_len s_pack (fun e => by have := xA_pos; rw [e] at this; simp at this)
theorem s_nil : unpackF TF [] = none := by rw [unpackF, first_nil_of (by decide)]
theorem s_pack0 : packF TF mZ = ([], 470) := by rw [packF, if_neg (fun h => mZ_right h.1)]
theorem s_ne : ¬ mA = mZ := by decide
end Go.Proofs.YtghjhdbmkilakaaGreatDoor

/-
  Frames: the contract of sane.
  Conditions: none.
-/
namespace Go.Proofs.YtghjhdbmkilakaaGreatDoor
open Go Bf
attribute [local irreducible] Tr Exec Stab HasTy Go.Addr.add IntKind.wrap
theorem zMsg_R (M : Mem) : RMsg M zMsg mZ :=
  ⟨⟨0, 0, 0, 0, 0, 0, 0, none, 0, none, 0, none, 0, rfl, rfl, SlOf.nil _ _ _, SlOf.nil _ _ _, SlOf.nil _ _ _⟩, mZ_W, by decide⟩
theorem zMsg_len : (zMsg : List Value).length = 43 := by simp only [zMsg, List.length_cons, zSl]
theorem ofBytes {M : Mem} {b t : Nat} {l : List UInt8} (h : (box b t (byteV l)).ok M) (hl : l.length ≤ 9223372036854775807) : BSl M (.slice (some ⟨b, 0, none⟩) l.length l.length) l := BSl.ofBox h hl
set_option maxHeartbeats 16000000 in
set_option maxRecDepth 20000 in
theorem sane_e3 (E : World) (F : List Res) (M0 M : Mem) (hm0 : Mem.le M0 M) (bA : List UInt8) (hbl : bA.length = 11) (A3 A6 A7 A8 A9 A10 A11 A12 A14 A19 : Option Addr) (c3 c6 c7 c8 c9 c10 c11 c12 c14 c19 b5 b18 b21 : Nat) (xA : List UInt8) (cs18 cs21 : List Value)
    (h3 : BSl M (.slice A3 bA.length c3) bA) (h6 : RFrms M (.slice A6 1 c6) [fA]) (h9 : BSl M (.slice A9 (bA.take 10).length c9) (bA.take 10)) (h18a : At M ⟨b18, 0, none⟩ cs18) (h18l : cs18.length = 43) (h18 : RMsg M cs18 mA) (h21a : At M ⟨b21, 0, none⟩ cs21) (h21l : cs21.length = 43) (h21 : RMsg M cs21 mA) :
    TrA none Tryz.prog E (opsC (headC (tailC 16 (Tryz.f4.body.getD .skip)))) (Exit.then (Code.ret.wpIn (rf none) 0 Tryz.prog (bodyPost Tryz.prog Tryz.f4 (Post E F M0 fun v M' A' => A' = [] ∧ (fun r _ => r = .bool true) v M'))) (bodyPost Tryz.prog Tryz.f4 (Post E F M0 fun v M' A' => A' = [] ∧ (fun r _ => r = .bool true) v M'))) ([] ++ F) 37 [53, 52, 51, 50, 49, 48, 47, 46, 45, 44, 43, 42, 41, 40, 39, 38, 37, 36, 35, 34, 33, 32, 31, 30, 29, 28, 27, 26, 25, 24, 23, 22, 20, 21, 19, 18, 17, 16, 15, 14, 13, 12, 11, 10, 9, 8, 7, 6, 5, 4, 3, 2, 1, 0] ⟨225, [(188, .bool (decide ((1 : Int) = 1))), (17, .int .i64 470), (18, .pointer (some ⟨b18, 0, none⟩)), (20, .int .i64 0), (21, .pointer (some ⟨b21, 0, none⟩)), (22, .int .i64 0), (24, .int .i64 470), (26, .int .i64 470)], [], M, ([] ++ F)⟩ := by
  unfold Tryz.f4
  dsimp only [opsC, headC, tailC, Option.getD_some]
  have e3 : ((0 : Nat) : Int) = 0 := rfl
  have e4 : ((1 : Nat) : Int) = 1 := rfl
  ((refine tkQ 54 (s := by exact Stab.move rfl) (h := ?_)); ((refine tgQ 55 (q := (decide_eq_true (by (with_reducible rfl)))) (s := by exact Stab.move rfl) (h := ?_))); ((refine tgQ 56 (q := (decide_eq_true (by (with_reducible rfl)))) (s := by exact siQ) (h := ?_))); (refine tkQ 57 (s := by exact Stab.pick_td rfl (by (with_reducible rfl)) rfl) (h := ?_)); (refine tkQ 58 (s := by exact Stab.move rfl) (h := ?_)); ((refine tgQ 59 (q := (decide_eq_true (by (with_reducible rfl)))) (s := by exact Stab.move rfl) (h := ?_))); ((refine tgQ 60 (q := (decide_eq_true (by (with_reducible rfl)))) (s := by exact siQ) (h := ?_))); (refine tkQ 61 (s := by exact Stab.pick_td rfl (by (with_reducible rfl)) rfl) (h := ?_)); (refine tkQ 62 (s := by exact Stab.move rfl) (h := ?_)); ((refine tgQ 63 (q := (decide_eq_true (by (with_reducible rfl)))) (s := by exact Stab.move rfl) (h := ?_))); ((refine tgQ 64 (q := (decide_eq_true (by (with_reducible rfl)))) (s := by exact siQ) (h := ?_))); (refine tkQ 65 (s := by exact Stab.pick_td rfl (by (with_reducible rfl)) rfl) (h := ?_)); (refine tkQ 66 (s := by exact Stab.move rfl) (h := ?_)); ((refine tgQ 67 (q := (decide_eq_true (by (with_reducible rfl)))) (s := by exact Stab.move rfl) (h := ?_))); ((refine tgQ 68 (q := (decide_eq_true (by (with_reducible rfl)))) (s := by exact siQ) (h := ?_))); (refine tkQ 69 (s := by exact Stab.pick_td rfl (by (with_reducible rfl)) rfl) (h := ?_)); (refine tkQ 70 (s := by exact Stab.move rfl) (h := ?_)); ((refine tgQ 71 (q := (decide_eq_true (by (with_reducible rfl)))) (s := by exact Stab.move rfl) (h := ?_))); ((refine tgQ 72 (q := (decide_eq_true (by (with_reducible rfl)))) (s := by exact siQ) (h := ?_))); (refine tkQ 73 (s := by exact Stab.pick_td rfl (by (with_reducible rfl)) rfl) (h := ?_)); (refine tkQ 74 (s := by exact Stab.move rfl) (h := ?_)); ((refine tgQ 75 (q := (decide_eq_true (by (with_reducible rfl)))) (s := by exact Stab.loadMA rfl (tysOk.get rfl) rfl (by assumption) (by first | rfl | assumption)) (h := ?_))); ((refine tgQ 76 (q := (decide_eq_true (by (with_reducible rfl)))) (s := by exact Stab.loadMA rfl (tysOk.get rfl) rfl (by assumption) (by first | rfl | assumption)) (h := ?_))); (refine TrA.eff 77 rfl (by kernel_rfl) (by exact .inr ⟨_, _, _, rfl, rfl, rfl⟩) ?_))
  refine Exec.call0 rfl (rsame_fn M mA mA cs18 cs21 h18 h21) rfl ?_
  rintro _ _ _ ⟨rfl, rfl⟩
  refine ⟨Mem.le.refl _, (by exact fun _ h => h), ?_⟩
  rw [decide_eq_true (rfl : mA = mA)]
  ((refine tkQ 78 (s := by exact Stab.pick_td rfl (by (with_reducible rfl)) rfl) (h := ?_)); (refine tkQ 79 (s := by exact Stab.move rfl) (h := ?_)); ((refine tgQ 80 (s := by exact Stab.loadMA rfl (tysOk.get rfl) rfl (by assumption) (by first | rfl | assumption)) (h := ?_))); ((refine tgQ 81 (s := by exact Stab.loadMA rfl (tysOk.get rfl) rfl (by assumption) (by first | rfl | assumption)) (h := ?_))); (refine TrA.eff 82 rfl (by kernel_rfl) (by exact .inr ⟨_, _, _, rfl, rfl, rfl⟩) ?_))
  refine Exec.call0 rfl (fsame_fn M mA mA cs18 cs21 h18 h21) rfl ?_
  rintro _ _ _ ⟨rfl, rfl⟩
  refine ⟨Mem.le.refl _, (by exact fun _ h => h), ?_⟩
  rw [decide_eq_true (rfl : mA = mA)]
  ((refine tkQ 83 (s := by exact Stab.pick_t rfl (by (with_reducible rfl)) rfl) (h := ?_)); (refine tkQ 84 (s := by exact Stab.move rfl) (h := ?_)); ((refine tgQ 85 (s := by exact Stab.loadMA rfl (tysOk.get rfl) rfl (by assumption) (by first | rfl | assumption)) (h := ?_))); ((refine tgQ 86 (s := by exact Stab.build tysOk rfl rfl rfl rfl (by repeat (exact BuildP.nil))) (h := ?_))); (refine TrA.eff 87 rfl (by kernel_rfl) (by exact .inr ⟨_, _, _, rfl, rfl, rfl⟩) ?_))
  refine Exec.call0 rfl (fsame_fn M mA mZ cs18 zMsg h18 (zMsg_R _)) rfl ?_
  rintro _ _ _ ⟨rfl, rfl⟩
  refine ⟨Mem.le.refl _, (by exact fun _ h => h), ?_⟩
  rw [decide_eq_false s_ne]
  (((refine tgQ 88 (s := by exact Stab.not rfl) (h := ?_))); (refine tkQ 89 (s := by exact Stab.pick_t rfl (by (with_reducible rfl)) rfl) (h := ?_)); (refine tkQ 90 (s := by exact Stab.assign rfl) (h := ?_)); (refine TrA.done (by kernel_rfl) ?_))
  (repeat (first | (with_reducible first | apply Tr.next | apply Tr.ret)))
  refine Tr.done (by first | exact .inl rfl | exact .inr rfl) rfl (by repeat (first | exact RVs.nil | (apply RVs.cons; (exact RV.tmp rfl)))) hm0 (by exact ⟨[], rfl⟩) ⟨rfl, rfl⟩
set_option maxHeartbeats 16000000 in
set_option maxRecDepth 20000 in
theorem sane_e2 (E : World) (F : List Res) (M0 M : Mem) (hm0 : Mem.le M0 M) (bA : List UInt8) (hbl : bA.length = 11) (A3 A6 A7 A8 A9 A10 A11 A12 A14 A19 : Option Addr) (c3 c6 c7 c8 c9 c10 c11 c12 c14 c19 b5 b18 b21 : Nat) (xA : List UInt8) (cs18 cs21 : List Value)
    (h3 : BSl M (.slice A3 bA.length c3) bA) (h6 : RFrms M (.slice A6 1 c6) [fA]) (h9 : BSl M (.slice A9 (bA.take 10).length c9) (bA.take 10)) (h18a : At M ⟨b18, 0, none⟩ cs18) (h18l : cs18.length = 43) (h18 : RMsg M cs18 mA) (h21a : At M ⟨b21, 0, none⟩ cs21) (h21l : cs21.length = 43) (h21 : RMsg M cs21 mA) :
    TrA none Tryz.prog E (opsC (headC (tailC 16 (Tryz.f4.body.getD .skip)))) (Exit.then (Code.ret.wpIn (rf none) 0 Tryz.prog (bodyPost Tryz.prog Tryz.f4 (Post E F M0 fun v M' A' => A' = [] ∧ (fun r _ => r = .bool true) v M'))) (bodyPost Tryz.prog Tryz.f4 (Post E F M0 fun v M' A' => A' = [] ∧ (fun r _ => r = .bool true) v M'))) ([] ++ F) 60 [30, 29, 28, 27, 26, 25, 24, 23, 22, 20, 21, 19, 18, 17, 16, 15, 14, 13, 12, 11, 10, 9, 8, 7, 6, 5, 4, 3, 2, 1, 0] ⟨225, [(165, .bool (decide (((0 : Nat) : Int) = 0))), (11, .slice A11 0 c11), (12, .slice A12 0 c12), (13, .int .i64 2), (14, .slice A14 1 c14), (15, .int .i64 1), (17, .int .i64 470), (18, .pointer (some ⟨b18, 0, none⟩)), (20, .int .i64 0), (21, .pointer (some ⟨b21, 0, none⟩)), (22, .int .i64 0), (24, .int .i64 470), (26, .int .i64 470)], [], M, ([] ++ F)⟩ := by
  unfold Tryz.f4
  dsimp only [opsC, headC, tailC, Option.getD_some]
  have e3 : ((0 : Nat) : Int) = 0 := rfl
  have e4 : ((1 : Nat) : Int) = 1 := rfl
  ((refine tkQ 31 (s := by exact Stab.move rfl) (h := ?_)); ((refine tgQ 32 (q := (decide_eq_true (by (with_reducible assumption)))) (s := by exact Stab.move rfl) (h := ?_))); ((refine tgQ 33 (q := (decide_eq_true (by (with_reducible assumption)))) (s := by exact snQ) (h := ?_))); ((refine tgQ 34 (q := (decide_eq_true (by (with_reducible assumption)))) (s := by exact siQ) (h := ?_))); (refine tkQ 35 (s := by exact Stab.pick_td rfl (by (with_reducible assumption)) rfl) (h := ?_)); (refine tkQ 36 (s := by exact Stab.move rfl) (h := ?_)); ((refine tgQ 37 (q := (decide_eq_true (by (with_reducible assumption)))) (s := by exact Stab.move rfl) (h := ?_))); ((refine tgQ 38 (q := (decide_eq_true (by (with_reducible assumption)))) (s := by exact snQ) (h := ?_))); ((refine tgQ 39 (q := (decide_eq_true (by (with_reducible assumption)))) (s := by exact siQ) (h := ?_))); (refine tkQ 40 (s := by exact Stab.pick_td rfl (by (with_reducible assumption)) rfl) (h := ?_)); (refine tkQ 41 (s := by exact Stab.move rfl) (h := ?_)); ((refine tgQ 42 (q := (decide_eq_true (by (with_reducible assumption)))) (s := by exact Stab.move rfl) (h := ?_))); ((refine tgQ 43 (q := (decide_eq_true (by (with_reducible assumption)))) (s := by exact siQ) (h := ?_))); (refine tkQ 44 (s := by exact Stab.pick_td rfl (by (with_reducible assumption)) rfl) (h := ?_)); (refine tkQ 45 (s := by exact Stab.move rfl) (h := ?_)); ((refine tgQ 46 (q := (decide_eq_true (by (with_reducible rfl)))) (s := by exact Stab.move rfl) (h := ?_))); ((refine tgQ 47 (q := (decide_eq_true (by (with_reducible rfl)))) (s := by exact snQ) (h := ?_))); ((refine tgQ 48 (q := (decide_eq_true (by (with_reducible rfl)))) (s := by exact siQ) (h := ?_))); (refine tkQ 49 (s := by exact Stab.pick_td rfl (by (with_reducible rfl)) rfl) (h := ?_)); (refine tkQ 50 (s := by exact Stab.move rfl) (h := ?_)); ((refine tgQ 51 (q := (decide_eq_true (by (with_reducible assumption)))) (s := by exact Stab.move rfl) (h := ?_))); ((refine tgQ 52 (q := (decide_eq_true (by (with_reducible assumption)))) (s := by exact siQ) (h := ?_))); (refine tkQ 53 (s := by exact Stab.pick_td rfl (by (with_reducible assumption)) rfl) (h := ?_)))
  exact TrA.less (by repeat (first | exact SubFr.nil | refine SubFr.cons rfl ?_)) (sane_e3 E F M0 M hm0 bA hbl A3 A6 A7 A8 A9 A10 A11 A12 A14 A19 c3 c6 c7 c8 c9 c10 c11 c12 c14 c19 b5 b18 b21 xA cs18 cs21 h3 h6 h9 h18a h18l h18 h21a h21l h21)
set_option maxHeartbeats 16000000 in
set_option maxRecDepth 20000 in
theorem sane_end (E : World) (F : List Res) (M0 M : Mem) (hm0 : Mem.le M0 M) (bA : List UInt8) (hbl : bA.length = 11) (A3 A6 A7 A8 A9 A10 A11 A12 A14 A19 : Option Addr) (c3 c6 c7 c8 c9 c10 c11 c12 c14 c19 b5 b18 b21 : Nat) (xA : List UInt8) (cs18 cs21 : List Value)
    (h3 : BSl M (.slice A3 bA.length c3) bA) (h6 : RFrms M (.slice A6 1 c6) [fA]) (h9 : BSl M (.slice A9 (bA.take 10).length c9) (bA.take 10)) (h18a : At M ⟨b18, 0, none⟩ cs18) (h18l : cs18.length = 43) (h18 : RMsg M cs18 mA) (h21a : At M ⟨b21, 0, none⟩ cs21) (h21l : cs21.length = 43) (h21 : RMsg M cs21 mA) :
    Tr E ⟨225, [(2, .int .i64 470), (3, .slice A3 bA.length c3), (4, .int .i64 0), (5, .pointer (some ⟨b5, 0, none⟩)), (6, .slice A6 1 c6), (7, .slice A7 1 c7), (8, .slice A8 0 c8), (9, .slice A9 (bA.take 10).length c9), (10, .slice A10 0 c10), (11, .slice A11 0 c11), (12, .slice A12 0 c12), (13, .int .i64 2), (14, .slice A14 1 c14), (15, .int .i64 1), (17, .int .i64 470), (18, .pointer (some ⟨b18, 0, none⟩)), (19, .slice A19 xA.length c19), (20, .int .i64 0), (21, .pointer (some ⟨b21, 0, none⟩)), (22, .int .i64 0), (24, .int .i64 470), (26, .int .i64 470)], [], M, ([] ++ F)⟩ ((tailC 16 (Tryz.f4.body.getD .skip)).wpIn (rf none) 0 Tryz.prog (bodyPost Tryz.prog Tryz.f4 (Post E F M0 fun v M' A' => A' = [] ∧ (fun r _ => r = .bool true) v M'))) := by
  refine Tr.seq ?_
  obtain ⟨i6, ch6, a6, Ab, cb, rfl, hbb, hkb⟩ := h6.elem (i := 0) rfl
  have a60 : At M (((A6.getD default).add (0 * 2)).add 0) [.int .i64 fA.kind, .slice Ab fA.body.length cb] := a6.drop 0
  have a61 : At M (((A6.getD default).add (0 * 2)).add 1) [.slice Ab fA.body.length cb] := a6.tail
  have hcap := h3.cap
  have e1 : fA.kind = 3 := rfl
  have e2 : ({ data := fA.body.toArray } : ByteArray).data.toList = ({ data := #[7] } : ByteArray).data.toList := rfl
  have e3 : ((0 : Nat) : Int) = 0 := rfl
  have e4 : ((1 : Nat) : Int) = 1 := rfl
  have hp : BSl M (.slice A3 10 c3) (bA.take 10) := h3.pre (k := 10) (m := c3) (by omega) (by omega) (Nat.le_refl _)
  (skip)
  (((apply Tr.draw); (kernel_rfl)); (refine tkQ 0 (hB := by exact fun _ h => h) (s := by exact Stab.move rfl) (h := ?_)); (refine tkQ 1 (s := by exact sxQ) (h := ?_)); (refine tkQ 2 (s := by exact Stab.fieldD rfl (tysOk.get rfl) rfl rfl (tysOk.get rfl) rfl) (h := ?_)); (refine tkQ 3 (s := by exact sMQ) (h := ?_)); (refine tkQ 4 (s := by exact siQ) (h := ?_)); (refine tkQ 5 (s := by exact Stab.move rfl) (h := ?_)); ((refine tgQ 6 (q := (decide_eq_true (by (with_reducible assumption)))) (s := by exact Stab.move rfl) (h := ?_))); ((refine tgQ 7 (q := (decide_eq_true (by (with_reducible assumption)))) (s := by exact sxQ) (h := ?_))); ((refine tgQ 8 (q := (decide_eq_true (by (with_reducible assumption)))) (s := by exact Stab.fieldD rfl (tysOk.get rfl) rfl rfl (tysOk.get rfl) rfl) (h := ?_))); ((refine tgQ 9 (q := (decide_eq_true (by (with_reducible assumption)))) (s := by exact sMQ) (h := ?_))); ((refine tgQ 10 (q := (decide_eq_true (by (with_reducible assumption)))) (s := by exact Stab.bstrB rfl (tysOk.get rfl) (tysOk.get rfl) rfl rfl (tysOk.get rfl) rfl (by assumption)) (h := ?_))); ((refine tgQ 11 (q := (decide_eq_true (by (with_reducible assumption)))) (s := by exact Stab.streq rfl rfl) (h := ?_))); (refine tkQ 12 (s := by exact Stab.pick_td rfl (by (with_reducible assumption)) rfl) (h := ?_)); (refine tkQ 13 (s := by exact Stab.move rfl) (h := ?_)); ((refine tgQ 14 (q := (decide_eq_true (by (with_reducible assumption)))) (s := by exact Stab.move rfl) (h := ?_))); ((refine tgQ 15 (q := (decide_eq_true (by (with_reducible assumption)))) (s := by exact snQ) (h := ?_))); ((refine tgQ 16 (q := (decide_eq_true (by (with_reducible assumption)))) (s := by exact siQ) (h := ?_))); (refine tkQ 17 (s := by exact Stab.pick_td rfl (by (with_reducible assumption)) rfl) (h := ?_)); (refine tkQ 18 (s := by exact Stab.move rfl) (h := ?_)); ((refine tgQ 19 (q := (decide_eq_true (by (with_reducible assumption)))) (s := by exact Stab.move rfl) (h := ?_))); ((refine tgQ 21 (q := (decide_eq_true (by (with_reducible assumption)))) (s := by exact Stab.move rfl) (h := ?_))); ((refine tgQ 20 (q := (decide_eq_true (by (with_reducible assumption)))) (s := by exact Stab.bstrB rfl (tysOk.get rfl) (tysOk.get rfl) rfl rfl (tysOk.get rfl) rfl (by assumption)) (h := ?_))); ((refine tgQ 22 (q := (decide_eq_true (by (with_reducible assumption)))) (s := by exact Stab.slice_h rfl rfl (tysOk.get rfl) rfl (tysOk.get rfl) (by omega) (by omega)) (h := ?_))); ((refine tgQ 23 (q := (decide_eq_true (by (with_reducible assumption)))) (s := by exact Stab.bstrB rfl (tysOk.get rfl) (tysOk.get rfl) rfl rfl (tysOk.get rfl) rfl (by assumption)) (h := ?_))); ((refine tgQ 24 (q := (decide_eq_true (by (with_reducible assumption)))) (s := by exact Stab.streq rfl rfl) (h := ?_))); (refine tkQ 25 (s := by exact Stab.pick_td rfl (by (with_reducible assumption)) rfl) (h := ?_)); (refine tkQ 26 (s := by exact Stab.move rfl) (h := ?_)); ((refine tgQ 27 (q := (decide_eq_true (by (with_reducible rfl)))) (s := by exact Stab.move rfl) (h := ?_))); ((refine tgQ 28 (q := (decide_eq_true (by (with_reducible rfl)))) (s := by exact snQ) (h := ?_))); ((refine tgQ 29 (q := (decide_eq_true (by (with_reducible rfl)))) (s := by exact siQ) (h := ?_))); (refine tkQ 30 (s := by exact Stab.pick_td rfl (by (with_reducible rfl)) rfl) (h := ?_)))
  exact TrA.less (by repeat (first | exact SubFr.nil | refine SubFr.cons rfl ?_)) (sane_e2 E F M0 M hm0 bA hbl A3 A6 A7 A8 A9 A10 A11 A12 A14 A19 c3 c6 c7 c8 c9 c10 c11 c12 c14 c19 b5 b18 b21 xA cs18 cs21 h3 h6 h9 h18a h18l h18 h21a h21l h21)

set_option maxHeartbeats 16000000 in
set_option maxRecDepth 20000 in
theorem sane_fn (M0 : Mem) (hK : Tab M0) : Fn0 Tryz.prog 4 [] M0 (fun r _ => r = .bool true) := by
  have hz := zMsg_len
  have s_enc := s_enc
  have bA_len := bA_len
  have bA_eq := bA_eq
  have s_read1 := s_read1
  have s_drop1 := s_drop1
  have s_read2 := s_read2
  have s_scan2 := s_scan2
  have s_pack := s_pack
  have xA_len := xA_len
  have s_unpack := s_unpack
  have s_twice := s_twice
  have htl := TF_len [170, 3, 0, 0, 0, 1, 7]
  generalize bA = bA at *
  generalize xA = xA at *
  generalize hTF : TF [170, 3, 0, 0, 0, 1, 7] = dA at *
  refine Fn.intro Tryz.func4 rfl rfl Tryz.ntmps4 rfl fun E F => ?_
  first | (refine Tr.seq ?_) | (refine Tr.next ?_; refine Tr.seq ?_)
  refine Tr.cut (α := Mem) (fun y => ⟨225, [], [], y, ([] ++ F)⟩) (fun y => Mem.le M0 y) ?_ (fun y hy => ?_)
  · skip
    (repeat (first | ((with_reducible refine Tr.step rfl ?_); (with_reducible refine Knd.assign ?_); (refine xaQ (z := ?_))) | (with_reducible first | apply Tr.region | apply Tr.nil)))
    exact Tr.land M0 (Mem.le.refl _) hsQ
  generalize y = M1 at *
  have hg1 := hy
  replace hK := hK.mono hg1
  first | (refine Tr.seq ?_) | (refine Tr.next ?_; refine Tr.seq ?_)
  refine Tr.cut (α := Mem) (fun y => ⟨225, [(2, .int .i64 470)], [], y, ([] ++ F)⟩) (fun y => Mem.le M1 y) ?_ (fun y hy => ?_)
  · skip
    (repeat (first | ((with_reducible refine Tr.step rfl ?_); (with_reducible refine Knd.build ?_); (refine Exec.stab rfl (Stab.build tysOk rfl rfl rfl rfl (by repeat (first | exact BuildP.nil | ((apply BuildP.one); (rfl); (rfl); (first | rfl | assumption); (repeat (first | exact SetL.z | apply SetL.s)))))) rfl ?_)) | (with_reducible refine Tr.region ?_)))
    ((refine Tr.step rfl ?_)); refine Exec.call0 rfl (encode_fr M1 hK none 0 ⟨256, []⟩ (BSl.nil _)) rfl ?_
    rintro _ N1 hm1 ⟨A9, c9, rfl, hB⟩
    rw [s_enc0]
    (repeat (first | ((with_reducible refine Tr.step rfl ?_); (first | (refine xmQ (z := ?_)) | (refine xaQ (z := ?_)) | ((with_reducible refine Knd.extract ?_); (refine Exec.stab rfl (Stab.extract rfl rfl) rfl ?_)))) | (with_reducible refine Tr.nil ?_)))
    exact Tr.land N1 hm1 hsQ
  generalize y = M2 at *
  have hg2 := hy
  replace hK := hK.mono hg2
  first | (refine Tr.seq ?_) | (refine Tr.next ?_; refine Tr.seq ?_)
  refine Tr.cut (α := Mem × Option Addr × Nat) (fun y => ⟨225, [(2, .int .i64 470), (3, .slice y.2.1 bA.length y.2.2), (4, .int .i64 0)], [], y.1, ([] ++ F)⟩) (fun y => Mem.le M2 y.1 ∧ BSl y.1 (.slice y.2.1 bA.length y.2.2) bA) ?_ (fun y hy => ?_)
  · skip
    (repeat (first | ((with_reducible refine Tr.step rfl ?_); (first | ((with_reducible refine Knd.build ?_); (refine Exec.stab rfl (Stab.build tysOk rfl rfl rfl rfl (by repeat (first | exact BuildP.nil | ((apply BuildP.one); (rfl); (rfl); (first | rfl | assumption); (repeat (first | exact SetL.z | apply SetL.s)))))) rfl ?_)) | ((with_reducible refine Knd.buildSlice ?_); (refine Exec.buildSlice (tysOk.get rfl) rfl (tysOk.get rfl) rfl rfl rfl rfl rfl (by repeat (first | exact BuildP.nil | ((apply BuildP.one); (rfl); (rfl); (first | rfl | assumption); (repeat (first | exact SetL.z | apply SetL.s))))) rfl (fun b => ?_))))) | (with_reducible refine Tr.region ?_)))
    refine Tr.cells (b := b) (cs' := byteV [7]) (by repeat (first | exact Upd.here | apply Upd.there)) rfl ?_
    refine pbQ (r := box b 5 _) (k := fun N1 hm1 ok1 => ?_)
    have hB1 := ofBytes ok1 (by decide)
    ((refine Tr.step rfl ?_)); refine Exec.call0 rfl (encode_fr N1 (hK.mono hm1) _ _ fA hB1) rfl ?_
    rintro _ N2 hm2 ⟨A9, c9, rfl, hB⟩
    rw [s_enc] at hB ⊢
    dsimp only at hB ⊢
    (repeat (first | ((with_reducible refine Tr.step rfl ?_); (first | (refine xmQ (z := ?_)) | (refine xaQ (z := ?_)) | ((with_reducible refine Knd.extract ?_); (refine Exec.stab rfl (Stab.extract rfl rfl) rfl ?_)))) | (with_reducible refine Tr.nil ?_)))
    exact Tr.land (N2, A9, c9) ⟨hm1.trans hm2, hB⟩ hsQ
  obtain ⟨M3, A3, c3⟩ := y
  obtain ⟨hg3, h3⟩ := hy
  dsimp only at hg3 h3 ⊢
  replace hK := hK.mono hg3
  first | (refine Tr.seq ?_) | (refine Tr.next ?_; refine Tr.seq ?_)
  refine Tr.cut (α := Mem × Nat) (fun y => ⟨225, [(2, .int .i64 470), (3, .slice A3 bA.length c3), (4, .int .i64 0), (5, .pointer (some ⟨y.2, 0, none⟩))], [], y.1, ([] ++ F)⟩) (fun y => Mem.le M3 y.1 ∧ BSl y.1 (.slice (some ⟨y.2, 0, none⟩) 4 32) (dA.take 4)) ?_ (fun y hy => ?_)
  · skip
    (repeat (first | ((with_reducible refine Tr.step rfl ?_); (with_reducible refine Knd.buildSlice ?_); (refine Exec.buildSlice (tysOk.get rfl) rfl (tysOk.get rfl) rfl rfl rfl rfl rfl (by repeat (first | exact BuildP.nil | ((apply BuildP.one); (rfl); (rfl); (first | rfl | assumption); (repeat (first | exact SetL.z | apply SetL.s))))) rfl (fun b => ?_))) | (with_reducible refine Tr.region ?_)))
    refine Tr.cells (b := b) (cs' := byteV [170, 3, 0, 0, 0, 1, 7]) (by repeat (first | exact Upd.here | apply Upd.there)) rfl ?_
    refine pbQ (r := box b 5 _) (k := fun N1 hm1 ok1 => ?_)
    have hB1 := ofBytes ok1 (by decide)
    ((refine Tr.step rfl ?_)); refine Exec.call0 rfl (Dg.tagged_fn N1 (hK.mono hm1) fTag (by decide) _ _ [170, 3, 0, 0, 0, 1, 7] hB1 (by decide)) rfl ?_
    rintro _ N2 hm2 rfl
    show Tr _ ⟨_, (39, .agg (byteV (TF [170, 3, 0, 0, 0, 1, 7])).toArray) :: _, _, _, _⟩ _
    rw [hTF]
    have hbl : (byteV dA).length = 32 := by simpa using htl
    (repeat (first | ((with_reducible refine Tr.step rfl ?_); (first | ((with_reducible refine Knd.store ?_); (refine Exec.storeW rfl rfl (tysOk.get rfl) (by repeat (first | exact Upd.here | apply Upd.there)) (by first | rfl | assumption) (by first | rfl | assumption) (by exact AllOne.bytes _) ?_)) | ((with_reducible refine Knd.alloc ?_); (refine Exec.alloc (tysOk.get rfl) rfl rfl (fun b => ?_))))) | (with_reducible refine Tr.nil ?_)))
    generalize b = b7
    refine pbQ (r := box b7 _ _) (k := fun N3 hm3 ok3 => ?_)
    have hd := BSl.ofBox ok3 (by omega)
    rw [htl] at hd
    have hd4 := hd.pre (k := 4) (m := 32) (by omega) (by omega) (Nat.le_refl _)
    exact Tr.land (N3, b7) ⟨hm1.trans (hm2.trans hm3), hd4⟩ hsQ
  obtain ⟨M4, b5⟩ := y
  obtain ⟨hg4, h5⟩ := hy
  dsimp only at hg4 h5 ⊢
  replace hK := hK.mono hg4
  replace h3 := h3.mono hg4
  first | (refine Tr.seq ?_) | (refine Tr.next ?_; refine Tr.seq ?_)
  refine Tr.cut (α := Mem × Option Addr × Nat × Option Addr × Nat) (fun y => ⟨225, [(2, .int .i64 470), (3, .slice A3 bA.length c3), (4, .int .i64 0), (5, .pointer (some ⟨b5, 0, none⟩)), (6, .slice y.2.1 1 y.2.2.1), (7, .slice y.2.2.2.1 1 y.2.2.2.2)], [], y.1, ([] ++ F)⟩) (fun y => Mem.le M4 y.1 ∧ RFrms y.1 (.slice y.2.1 1 y.2.2.1) [fA] ∧ BSl y.1 (.slice y.2.2.2.1 1 y.2.2.2.2) [5]) ?_ (fun y hy => ?_)
  · skip
    have hcap := h3.cap
    have hbl := bA_len
    (repeat (first | ((with_reducible refine Tr.step rfl ?_); (first | (refine xmQ (z := ?_)) | ((with_reducible refine Knd.buildSlice ?_); (refine Exec.buildSlice (tysOk.get rfl) rfl (tysOk.get rfl) rfl rfl rfl rfl rfl (by repeat (exact BuildP.nil)) rfl (fun b => ?_))))) | (with_reducible refine Tr.region ?_)))
    refine Tr.cells (b := b) (cs' := byteV []) (by repeat (first | exact Upd.here | apply Upd.there)) rfl ?_
    refine Tr.box_own 1 0 (by repeat (first | exact Upd.here | apply Upd.there)) rfl (byteV_one _) (by simp [maxLen]) ?_
    ((refine Tr.step rfl ?_))
    refine Exec.append (news := byteV bA) rfl rfl (tysOk.get rfl) rfl (tysOk.get rfl) rfl rfl rfl rfl (by repeat (first | exact Del.here | apply Del.there)) (Src.row hcap.2.2.2) (by simp) (byteV_one _) (by omega) (by omega) rfl (fun R1 r1 hr1 => ?_)
    (repeat (((with_reducible refine Tr.step rfl ?_); (with_reducible refine Knd.buildSlice ?_); (refine Exec.buildSlice (tysOk.get rfl) rfl (tysOk.get rfl) rfl rfl rfl rfl rfl (by repeat (first | exact BuildP.nil | ((apply BuildP.one); (rfl); (rfl); (first | rfl | assumption); (repeat (first | exact SetL.z | apply SetL.s))))) rfl (fun b => ?_)))))
    ((refine Tr.step rfl ?_))
    refine Exec.append (A := R1) (news := byteV [5]) rfl rfl (tysOk.get rfl) rfl (tysOk.get rfl) rfl rfl rfl rfl (by repeat (first | exact Del.here | apply Del.there)) (Src.box (by repeat (first | exact Has.here | apply Has.there))) rfl (byteV_one _) (by omega) (by omega) rfl (fun R2 r2 hr2 => ?_)
    rw [← byteV_append, ← byteV_append, List.nil_append, show 0 + bA.length + 1 = (bA ++ [5]).length by rw [List.length_append]; simp]
    refine pbQ (r := ownS 5 1 R2 _ _ _) (k := fun N1 hm1 ok1 => ?_)
    have hB1 := BSl.ofOwn ok1 rfl hr2
    ((refine Tr.step rfl ?_)); refine Exec.call0 rfl (read_fn N1 (hK.mono hm1) _ _ (bA ++ [5]) hB1 (by rw [List.length_append]; simp; omega)) rfl ?_
    rintro _ N2 hm2 ⟨A8, c8, A9, c9, rfl, q1, q2⟩
    rw [s_read1] at q1 q2 ⊢
    dsimp only at q1 q2 ⊢
    rw [s_drop1] at q2 ⊢
    (repeat (first | ((with_reducible refine Tr.step rfl ?_); (first | (refine xmQ (z := ?_)) | (refine xaQ (z := ?_)) | ((with_reducible refine Knd.extract ?_); (refine Exec.stab rfl (Stab.extract rfl rfl) rfl ?_)))) | (with_reducible refine Tr.nil ?_)))
    exact Tr.land (N2, A8, c8, A9, c9) ⟨hm1.trans hm2, q1, q2⟩ hsQ
  obtain ⟨M5, A6, c6, A7, c7⟩ := y
  obtain ⟨hg5, h6, h7⟩ := hy
  dsimp only at hg5 h6 h7 ⊢
  replace hK := hK.mono hg5
  replace h3 := h3.mono hg5
  replace h5 := h5.mono hg5
  first | (refine Tr.seq ?_) | (refine Tr.next ?_; refine Tr.seq ?_)
  refine Tr.cut (α := Mem) (fun y => ⟨225, [(2, .int .i64 470), (3, .slice A3 bA.length c3), (4, .int .i64 0), (5, .pointer (some ⟨b5, 0, none⟩)), (6, .slice A6 1 c6), (7, .slice A7 1 c7)], [], y, ([] ++ F)⟩) (fun y => Mem.le M5 y) ?_ (fun y hy => ?_)
  · skip
    have hbl := bA_len
    have e1 : ¬ (470 : Int) ≠ 470 := fun h => h rfl
    have e2 : ¬ (0 : Int) ≠ 0 := fun h => h rfl
    have e3 : ¬ ((bA.length : Nat) : Int) ≠ 11 := by omega
    have e5 : ¬ ((1 : Nat) : Int) ≠ 1 := by omega
    have e4 : ¬ ¬ ({ data := bA.toArray } : ByteArray).data.toList = ({ data := ([170, 3, 0, 0, 0, 1, 7] ++ dA.take 4).toArray } : ByteArray).data.toList := fun h => h bA_eq
    have e6 : ¬ ¬ ({ data := [5].toArray } : ByteArray).data.toList = ({ data := #[5] } : ByteArray).data.toList := fun h => h rfl
    have e7 : (dA.take 4).length ≤ 4 := List.length_take_le _ _
    (repeat ((with_reducible refine Tr.seq ?_)))
    (((apply Tr.draw); (kernel_rfl)); (refine tkQ 0 (hB := by exact fun _ h => h) (s := by exact Stab.move rfl) (h := ?_)); (refine tkQ 1 (s := by exact siQ) (h := ?_)); (refine tkQ 2 (s := by exact Stab.move rfl) (h := ?_)); ((refine tgQ 3 (q := (decide_eq_false (by (with_reducible assumption)))) (s := by exact Stab.move rfl) (h := ?_))); ((refine tgQ 4 (q := (decide_eq_false (by (with_reducible assumption)))) (s := by exact siQ) (h := ?_))); (refine tkQ 5 (s := by exact Stab.pick_fd rfl (by (with_reducible assumption)) rfl) (h := ?_)); (refine tkQ 6 (s := by exact Stab.move rfl) (h := ?_)); ((refine tgQ 7 (q := (decide_eq_false (by (with_reducible assumption)))) (s := by exact Stab.move rfl) (h := ?_))); ((refine tgQ 8 (q := (decide_eq_false (by (with_reducible assumption)))) (s := by exact snQ) (h := ?_))); ((refine tgQ 9 (q := (decide_eq_false (by (with_reducible assumption)))) (s := by exact siQ) (h := ?_))); (refine tkQ 10 (s := by exact Stab.pick_fd rfl (by (with_reducible assumption)) rfl) (h := ?_)); (refine tkQ 11 (s := by exact Stab.move rfl) (h := ?_)); ((refine tgQ 12 (q := (decide_eq_false (by (with_reducible assumption)))) (s := by exact Stab.move rfl) (h := ?_))); ((refine tgQ 14 (q := (decide_eq_false (by (with_reducible assumption)))) (s := by exact Stab.sliceArrH rfl rfl (tysOk.get rfl) rfl (tysOk.get rfl) rfl (by omega) (by omega)) (h := ?_))); ((refine tgQ 13 (q := (decide_eq_false (by (with_reducible assumption)))) (s := by exact Stab.bstrB rfl (tysOk.get rfl) (tysOk.get rfl) rfl rfl (tysOk.get rfl) rfl (by assumption)) (h := ?_))); ((refine tgQ 15 (q := (decide_eq_false (by (with_reducible assumption)))) (s := by exact Stab.bstrB rfl (tysOk.get rfl) (tysOk.get rfl) rfl rfl (tysOk.get rfl) rfl (by assumption)) (h := ?_))); ((refine tgQ 16 (q := (decide_eq_false (by (with_reducible assumption)))) (s := by exact Stab.strcat rfl rfl (by simp only [List.length_cons, List.length_nil]; omega)) (h := ?_))); ((refine tgQ 17 (q := (decide_eq_false (by (with_reducible assumption)))) (s := by exact Stab.strne rfl rfl) (h := ?_))); (refine tkQ 18 (s := by exact Stab.pick_fd rfl (by (with_reducible assumption)) rfl) (h := ?_)); (refine tkQ 19 (s := by exact Stab.move rfl) (h := ?_)); ((refine tgQ 20 (q := (decide_eq_false (by (with_reducible assumption)))) (s := by exact Stab.move rfl) (h := ?_))); ((refine tgQ 21 (q := (decide_eq_false (by (with_reducible assumption)))) (s := by exact snQ) (h := ?_))); ((refine tgQ 22 (q := (decide_eq_false (by (with_reducible assumption)))) (s := by exact siQ) (h := ?_))); (refine tkQ 23 (s := by exact Stab.pick_fd rfl (by (with_reducible assumption)) rfl) (h := ?_)); (refine tkQ 24 (s := by exact Stab.move rfl) (h := ?_)); ((refine tgQ 25 (q := (decide_eq_false (by (with_reducible assumption)))) (s := by exact Stab.move rfl) (h := ?_))); ((refine tgQ 26 (q := (decide_eq_false (by (with_reducible assumption)))) (s := by exact Stab.bstrB rfl (tysOk.get rfl) (tysOk.get rfl) rfl rfl (tysOk.get rfl) rfl (by assumption)) (h := ?_))); ((refine tgQ 27 (q := (decide_eq_false (by (with_reducible assumption)))) (s := by exact Stab.strne rfl rfl) (h := ?_))); (refine tkQ 28 (s := by exact Stab.pick_fd rfl (by (with_reducible assumption)) rfl) (h := ?_)); (refine TrA.done (by kernel_rfl) ?_))
    (repeat (first | (with_reducible first | apply Tr.next | apply Tr.skip) | (refine Tr.cond_f rfl (by (with_reducible assumption)) ?_)))
    exact Tr.land M5 (Mem.le.refl _) hsQ
  generalize y = M6 at *
  have hg6 := hy
  replace hK := hK.mono hg6
  replace h3 := h3.mono hg6
  replace h5 := h5.mono hg6
  replace h6 := h6.mono RFrm.mono hg6
  replace h7 := h7.mono hg6
  first | (refine Tr.seq ?_) | (refine Tr.next ?_; refine Tr.seq ?_)
  refine Tr.cut (α := Mem × Option Addr × Nat × Option Addr × Nat) (fun y => ⟨225, [(2, .int .i64 470), (3, .slice A3 bA.length c3), (4, .int .i64 0), (5, .pointer (some ⟨b5, 0, none⟩)), (6, .slice A6 1 c6), (7, .slice A7 1 c7), (8, .slice y.2.1 0 y.2.2.1), (9, .slice y.2.2.2.1 (bA.take 10).length y.2.2.2.2)], [], y.1, ([] ++ F)⟩) (fun y => Mem.le M6 y.1 ∧ BSl y.1 (.slice y.2.2.2.1 (bA.take 10).length y.2.2.2.2) (bA.take 10)) ?_ (fun y hy => ?_)
  · skip
    have hbl := bA_len
    have hcap := h3.cap
    have ht10 : (bA.take 10).length = 10 := by rw [List.length_take, hbl]; rfl
    have hp : BSl M6 (.slice A3 (bA.take 10).length c3) (bA.take 10) := by rw [ht10]; exact h3.pre (k := 10) (m := c3) (by omega) (by omega) (Nat.le_refl _)
    (repeat (first | ((with_reducible refine Tr.step rfl ?_); (first | (refine xmQ (z := ?_)) | ((with_reducible refine Knd.slice ?_); (refine Exec.stab rfl (Stab.slice_h rfl rfl (tysOk.get rfl) rfl (tysOk.get rfl) (by omega) (by omega)) rfl ?_)))) | (with_reducible refine Tr.region ?_)))
    rw [show (Int.toNat 10 : Nat) = (bA.take 10).length from ht10.symm]
    ((refine Tr.step rfl ?_)); refine Exec.call0 rfl (read_fn M6 hK _ _ (bA.take 10) hp (by omega)) rfl ?_
    rintro _ N2 hm2 ⟨A8, c8, A9, c9, rfl, q1, q2⟩
    rw [s_read2] at q1 q2 ⊢
    dsimp only at q1 q2 ⊢
    rw [List.drop_zero] at q2 ⊢
    (repeat (first | ((with_reducible refine Tr.step rfl ?_); (first | (refine xmQ (z := ?_)) | (refine xaQ (z := ?_)) | ((with_reducible refine Knd.extract ?_); (refine Exec.stab rfl (Stab.extract rfl rfl) rfl ?_)))) | (with_reducible refine Tr.nil ?_)))
    exact Tr.land (N2, A8, c8, A9, c9) ⟨hm2, q2⟩ hsQ
  obtain ⟨M7, A8, c8, A9, c9⟩ := y
  obtain ⟨hg7, h9⟩ := hy
  dsimp only at hg7 h9 ⊢
  replace hK := hK.mono hg7
  replace h3 := h3.mono hg7
  replace h5 := h5.mono hg7
  replace h6 := h6.mono RFrm.mono hg7
  replace h7 := h7.mono hg7
  first | (refine Tr.seq ?_) | (refine Tr.next ?_; refine Tr.seq ?_)
  refine Tr.cut (α := Mem × Option Addr × Nat × Option Addr × Nat) (fun y => ⟨225, [(2, .int .i64 470), (3, .slice A3 bA.length c3), (4, .int .i64 0), (5, .pointer (some ⟨b5, 0, none⟩)), (6, .slice A6 1 c6), (7, .slice A7 1 c7), (8, .slice A8 0 c8), (9, .slice A9 (bA.take 10).length c9), (10, .slice y.2.1 0 y.2.2.1), (11, .slice y.2.2.2.1 0 y.2.2.2.2)], [], y.1, ([] ++ F)⟩) (fun y => Mem.le M7 y.1) ?_ (fun y hy => ?_)
  · skip
    (repeat ((with_reducible refine Tr.region ?_)))
    ((refine Tr.step rfl ?_)); refine Exec.call0 rfl (read_fn M7 hK none 0 [] (BSl.nil _) (by decide)) rfl ?_
    rintro _ N2 hm2 ⟨A8, c8, A9, c9, rfl, q1, q2⟩
    rw [s_read3] at q1 q2 ⊢
    dsimp only at q1 q2 ⊢
    (repeat (first | ((with_reducible refine Tr.step rfl ?_); (first | (refine xmQ (z := ?_)) | (refine xaQ (z := ?_)) | ((with_reducible refine Knd.extract ?_); (refine Exec.stab rfl (Stab.extract rfl rfl) rfl ?_)))) | (with_reducible refine Tr.nil ?_)))
    exact Tr.land (N2, A8, c8, A9, c9) hm2 hsQ
  obtain ⟨M8, A10, c10, A11, c11⟩ := y
  have hg8 := hy
  dsimp only at hg8 ⊢
  replace hK := hK.mono hg8
  replace h3 := h3.mono hg8
  replace h5 := h5.mono hg8
  replace h6 := h6.mono RFrm.mono hg8
  replace h7 := h7.mono hg8
  replace h9 := h9.mono hg8
  first | (refine Tr.seq ?_) | (refine Tr.next ?_; refine Tr.seq ?_)
  refine Tr.cut (α := Mem × Option Addr × Nat) (fun y => ⟨225, [(2, .int .i64 470), (3, .slice A3 bA.length c3), (4, .int .i64 0), (5, .pointer (some ⟨b5, 0, none⟩)), (6, .slice A6 1 c6), (7, .slice A7 1 c7), (8, .slice A8 0 c8), (9, .slice A9 (bA.take 10).length c9), (10, .slice A10 0 c10), (11, .slice A11 0 c11), (12, .slice y.2.1 0 y.2.2), (13, .int .i64 2)], [], y.1, ([] ++ F)⟩) (fun y => Mem.le M8 y.1) ?_ (fun y hy => ?_)
  · skip
    (repeat (first | ((with_reducible refine Tr.step rfl ?_); (with_reducible refine Knd.buildSlice ?_); (refine Exec.buildSlice (tysOk.get rfl) rfl (tysOk.get rfl) rfl rfl rfl rfl rfl (by repeat (first | exact BuildP.nil | ((apply BuildP.one); (rfl); (rfl); (first | rfl | assumption); (repeat (first | exact SetL.z | apply SetL.s))))) rfl (fun b => ?_))) | (with_reducible refine Tr.region ?_)))
    refine Tr.cells (b := b) (cs' := byteV [1, 2]) (by repeat (first | exact Upd.here | apply Upd.there)) rfl ?_
    refine pbQ (r := box b 5 _) (k := fun N1 hm1 ok1 => ?_)
    have hB1 := ofBytes ok1 (by decide)
    ((refine Tr.step rfl ?_)); refine Exec.call0 rfl (scan_fn N1 (hK.mono hm1) _ _ [1, 2] hB1 (by decide)) rfl ?_
    rintro _ N2 hm2 ⟨A8, c8, rfl, q1⟩
    rw [s_scan1] at q1 ⊢
    dsimp only at q1 ⊢
    (repeat (first | ((with_reducible refine Tr.step rfl ?_); (first | (refine xmQ (z := ?_)) | (refine xaQ (z := ?_)) | ((with_reducible refine Knd.extract ?_); (refine Exec.stab rfl (Stab.extract rfl rfl) rfl ?_)))) | (with_reducible refine Tr.nil ?_)))
    exact Tr.land (N2, A8, c8) (hm1.trans hm2) hsQ
  obtain ⟨M9, A12, c12⟩ := y
  have hg9 := hy
  dsimp only at hg9 ⊢
  replace hK := hK.mono hg9
  replace h3 := h3.mono hg9
  replace h5 := h5.mono hg9
  replace h6 := h6.mono RFrm.mono hg9
  replace h7 := h7.mono hg9
  replace h9 := h9.mono hg9
  first | (refine Tr.seq ?_) | (refine Tr.next ?_; refine Tr.seq ?_)
  refine Tr.cut (α := Mem × Option Addr × Nat) (fun y => ⟨225, [(2, .int .i64 470), (3, .slice A3 bA.length c3), (4, .int .i64 0), (5, .pointer (some ⟨b5, 0, none⟩)), (6, .slice A6 1 c6), (7, .slice A7 1 c7), (8, .slice A8 0 c8), (9, .slice A9 (bA.take 10).length c9), (10, .slice A10 0 c10), (11, .slice A11 0 c11), (12, .slice A12 0 c12), (13, .int .i64 2), (14, .slice y.2.1 1 y.2.2), (15, .int .i64 1)], [], y.1, ([] ++ F)⟩) (fun y => Mem.le M9 y.1) ?_ (fun y hy => ?_)
  · skip
    have hcap := h3.cap
    have hbl := bA_len
    (repeat (first | ((with_reducible refine Tr.step rfl ?_); (first | (refine xmQ (z := ?_)) | ((with_reducible refine Knd.buildSlice ?_); (refine Exec.buildSlice (tysOk.get rfl) rfl (tysOk.get rfl) rfl rfl rfl rfl rfl (by repeat (first | exact BuildP.nil | ((apply BuildP.one); (rfl); (rfl); (first | rfl | assumption); (repeat (first | exact SetL.z | apply SetL.s))))) rfl (fun b => ?_))))) | (with_reducible refine Tr.region ?_)))
    refine Tr.cells (b := b) (cs' := byteV [9]) (by repeat (first | exact Upd.here | apply Upd.there)) rfl ?_
    refine Tr.box_own 1 1 (by repeat (first | exact Upd.here | apply Upd.there)) rfl (byteV_one _) (by simp [maxLen]) ?_
    ((refine Tr.step rfl ?_))
    refine Exec.append (news := byteV bA) rfl rfl (tysOk.get rfl) rfl (tysOk.get rfl) rfl rfl rfl rfl (by repeat (first | exact Del.here | apply Del.there)) (Src.row hcap.2.2.2) (by simp) (byteV_one _) (by omega) (by omega) rfl (fun R1 r1 hr1 => ?_)
    rw [← byteV_append, show 1 + bA.length = (9 :: bA).length by rw [List.length_cons]; omega]
    refine pbQ (r := ownS 5 1 R1 _ _ _) (k := fun N1 hm1 ok1 => ?_)
    have hB1 : BSl N1 (.slice R1 (9 :: bA).length r1) (9 :: bA) := BSl.ofOwn ok1 rfl hr1
    ((refine Tr.step rfl ?_)); refine Exec.call0 rfl (scan_fn N1 (hK.mono hm1) _ _ (9 :: bA) hB1 (by simp; omega)) rfl ?_
    rintro _ N2 hm2 ⟨A8, c8, rfl, q1⟩
    rw [s_scan2] at q1 ⊢
    dsimp only at q1 ⊢
    (repeat (first | ((with_reducible refine Tr.step rfl ?_); (first | (refine xmQ (z := ?_)) | (refine xaQ (z := ?_)) | ((with_reducible refine Knd.extract ?_); (refine Exec.stab rfl (Stab.extract rfl rfl) rfl ?_)))) | (with_reducible refine Tr.nil ?_)))
    exact Tr.land (N2, A8, c8) (hm1.trans hm2) hsQ
  obtain ⟨M10, A14, c14⟩ := y
  have hg10 := hy
  dsimp only at hg10 ⊢
  replace hK := hK.mono hg10
  replace h3 := h3.mono hg10
  replace h5 := h5.mono hg10
  replace h6 := h6.mono RFrm.mono hg10
  replace h7 := h7.mono hg10
  replace h9 := h9.mono hg10
  first | (refine Tr.seq ?_) | (refine Tr.next ?_; refine Tr.seq ?_)
  refine Tr.cut (α := Mem) (fun y => ⟨225, [(2, .int .i64 470), (3, .slice A3 bA.length c3), (4, .int .i64 0), (5, .pointer (some ⟨b5, 0, none⟩)), (6, .slice A6 1 c6), (7, .slice A7 1 c7), (8, .slice A8 0 c8), (9, .slice A9 (bA.take 10).length c9), (10, .slice A10 0 c10), (11, .slice A11 0 c11), (12, .slice A12 0 c12), (13, .int .i64 2), (14, .slice A14 1 c14), (15, .int .i64 1), (17, .int .i64 470)], [], y, ([] ++ F)⟩) (fun y => Mem.le M10 y) ?_ (fun y hy => ?_)
  · skip
    (repeat ((with_reducible refine Tr.region ?_)))
    ((refine Tr.step rfl ?_)); refine Exec.call0 rfl (unpack_fn M10 hK none 0 [] (BSl.nil _)) rfl ?_
    intro r N2 hm2 hR
    rw [s_nil] at hR
    obtain rfl := hR
    (repeat (first | ((with_reducible refine Tr.step rfl ?_); (first | (refine xmQ (z := ?_)) | (refine xaQ (z := ?_)) | ((with_reducible refine Knd.store ?_); (refine Exec.storeW rfl rfl (tysOk.get rfl) (by repeat (first | exact Upd.here | apply Upd.there)) rfl rfl (by repeat (first | exact AllOne.bytes _ | refine AllOne.cons (by first | rfl | assumption) ?_)) ?_)) | ((with_reducible refine Knd.alloc ?_); (refine Exec.alloc (tysOk.get rfl) rfl rfl (fun b => ?_))) | ((with_reducible refine Knd.extract ?_); (refine Exec.stab rfl (Stab.extract rfl rfl) rfl ?_)))) | (with_reducible refine Tr.nil ?_)))
    exact Tr.land N2 hm2 hsQ
  generalize y = M11 at *
  have hg11 := hy
  replace hK := hK.mono hg11
  replace h3 := h3.mono hg11
  replace h5 := h5.mono hg11
  replace h6 := h6.mono RFrm.mono hg11
  replace h7 := h7.mono hg11
  replace h9 := h9.mono hg11
  first | (refine Tr.seq ?_) | (refine Tr.next ?_; refine Tr.seq ?_)
  refine Tr.cut (α := Mem × Nat × List Value) (fun y => ⟨225, [(2, .int .i64 470), (3, .slice A3 bA.length c3), (4, .int .i64 0), (5, .pointer (some ⟨b5, 0, none⟩)), (6, .slice A6 1 c6), (7, .slice A7 1 c7), (8, .slice A8 0 c8), (9, .slice A9 (bA.take 10).length c9), (10, .slice A10 0 c10), (11, .slice A11 0 c11), (12, .slice A12 0 c12), (13, .int .i64 2), (14, .slice A14 1 c14), (15, .int .i64 1), (17, .int .i64 470), (18, .pointer (some ⟨y.2.1, 0, none⟩))], [], y.1, ([] ++ F)⟩) (fun y => Mem.le M11 y.1 ∧ At y.1 ⟨y.2.1, 0, none⟩ y.2.2 ∧ y.2.2.length = 43 ∧ RMsg y.1 y.2.2 mA) ?_ (fun y hy => ?_)
  · skip
    (repeat (first | ((with_reducible refine Tr.step rfl ?_); (first | (refine xWQ (z := ?_)) | ((with_reducible refine Knd.alloc ?_); (refine Exec.alloc (tysOk.get rfl) rfl rfl (fun b => ?_))) | ((with_reducible refine Knd.build ?_); (refine Exec.stab rfl (Stab.build tysOk rfl rfl rfl rfl (by repeat (first | exact BuildP.nil | ((apply BuildP.one); (rfl); (rfl); (first | rfl | assumption); (repeat (first | exact SetL.z | apply SetL.s)))))) rfl ?_)) | ((with_reducible refine Knd.buildSlice ?_); (refine Exec.buildSlice (tysOk.get rfl) rfl (tysOk.get rfl) rfl rfl rfl rfl rfl (by repeat (first | exact BuildP.nil | ((apply BuildP.one); (rfl); (rfl); (first | rfl | assumption); (repeat (first | exact SetL.z | apply SetL.s))) | ((apply BuildP.many); (rfl); (rfl); (rfl); (rfl); (repeat (first | exact PutL.nil | ((apply PutL.cons); (repeat (first | exact SetL.z | apply SetL.s)))))))) rfl (fun b => ?_))))) | (with_reducible first | apply Tr.region | apply Tr.nil)))
    rename_i c104 c105 c106 c107 c109
    refine Tr.cells (b := c104) (cs' := intV [4]) (by repeat (first | exact Upd.here | apply Upd.there)) rfl ?_
    refine Tr.cells (b := c105) (cs' := intV [5]) (by repeat (first | exact Upd.here | apply Upd.there)) rfl ?_
    refine Tr.cells (b := c106) (cs' := intV [6, -1]) (by repeat (first | exact Upd.here | apply Upd.there)) rfl ?_
    refine Tr.cells (b := c107) (cs' := [.slice (some ⟨c106, 0, none⟩) 2 2]) (by repeat (first | exact Upd.here | apply Upd.there)) rfl ?_
    refine Tr.cells (b := c109) (cs' := [.slice (some ⟨c105, 0, none⟩) 1 1, .slice (some ⟨c107, 0, none⟩) 1 1]) (by repeat (first | exact Upd.here | apply Upd.there)) rfl ?_
    refine Tr.cells (b := b) (cs' := (.int .i64 3 :: .int .i64 1 :: .int .i64 2 :: .int .i64 3 :: .int .i64 0 :: .int .i64 0 :: .int .i64 0 :: .int .i64 0 :: .slice (some ⟨c104, 0, none⟩) 1 1 :: .slice none 0 0 :: .slice (some ⟨c109, 0, none⟩) 1 1 :: byteV (List.replicate 32 0))) (by repeat (first | exact Upd.here | apply Upd.there)) rfl ?_
    refine pbQ (r := box c104 3 _) (k := fun N1 hm1 ok1 => ?_)
    refine pbQ (r := box c105 3 _) (k := fun N2 hm2 ok2 => ?_)
    refine pbQ (r := box c106 3 _) (k := fun N3 hm3 ok3 => ?_)
    refine pbQ (r := box c107 22 _) (k := fun N4 hm4 ok4 => ?_)
    refine pbQ (r := box c109 49 _) (k := fun N5 hm5 ok5 => ?_)
    refine pbQ (r := box b 27 _) (k := fun N6 hm6 ok6 => ?_)
    have i4 : Ints N1 (.slice (some ⟨c104, 0, none⟩) 1 1) [4] := Ints.ofBox ok1 (by decide)
    have i5 : Ints N2 (.slice (some ⟨c105, 0, none⟩) 1 1) [5] := Ints.ofBox ok2 (by decide)
    have i6 : Ints N3 (.slice (some ⟨c106, 0, none⟩) 2 2) [6, -1] := Ints.ofBox ok3 (by decide)
    have r7 : SlOf 1 RRowI N4 (.slice (some ⟨c107, 0, none⟩) 1 1) [[6, -1]] := SlOf.ofBox ok4 (by intro u hu; simp at hu; subst hu; rfl) (by decide) (Elems.one (cs := [.slice (some ⟨c106, 0, none⟩) 2 2]) rfl ⟨_, _, rfl, i6.mono RI.mono hm4⟩)
    have r9 : RRels N5 (.slice (some ⟨c109, 0, none⟩) 1 1) [⟨[5], [[6, -1]]⟩] := SlOf.ofBox ok5 (by intro u hu; simp at hu; rcases hu with rfl | rfl <;> rfl) (by decide) (Elems.one (cs := [.slice (some ⟨c105, 0, none⟩) 1 1, .slice (some ⟨c107, 0, none⟩) 1 1]) rfl ⟨_, _, _, _, rfl, i5.mono RI.mono (hm3.trans (hm4.trans hm5)), r7.mono RRowI.mono hm5⟩)
    have hM : RMsg N6 (.int .i64 3 :: .int .i64 1 :: .int .i64 2 :: .int .i64 3 :: .int .i64 0 :: .int .i64 0 :: .int .i64 0 :: .int .i64 0 :: .slice (some ⟨c104, 0, none⟩) 1 1 :: .slice none 0 0 :: .slice (some ⟨c109, 0, none⟩) 1 1 :: byteV (List.replicate 32 0)) mA := ⟨⟨1, 2, 3, 0, 0, 0, 0, some ⟨c104, 0, none⟩, 1, none, 0, some ⟨c109, 0, none⟩, 1, rfl, rfl, i4.mono RI.mono (hm2.trans (hm3.trans (hm4.trans (hm5.trans hm6)))), SlOf.nil _ _ _, r9.mono RRel.mono hm6⟩, mA_W, by decide⟩
    exact Tr.land (N6, b, (.int .i64 3 :: .int .i64 1 :: .int .i64 2 :: .int .i64 3 :: .int .i64 0 :: .int .i64 0 :: .int .i64 0 :: .int .i64 0 :: .slice (some ⟨c104, 0, none⟩) 1 1 :: .slice none 0 0 :: .slice (some ⟨c109, 0, none⟩) 1 1 :: byteV (List.replicate 32 0))) ⟨hm1.trans (hm2.trans (hm3.trans (hm4.trans (hm5.trans hm6)))), at_of_box (off := 0) ok6, by simp only [List.length_cons, zSl], hM⟩ hsQ
  obtain ⟨M12, b18, cs18⟩ := y
  obtain ⟨hg12, h18a, h18l, h18⟩ := hy
  dsimp only at hg12 h18a h18l h18 ⊢
  replace hK := hK.mono hg12
  replace h3 := h3.mono hg12
  replace h5 := h5.mono hg12
  replace h6 := h6.mono RFrm.mono hg12
  replace h7 := h7.mono hg12
  replace h9 := h9.mono hg12
  first | (refine Tr.seq ?_) | (refine Tr.next ?_; refine Tr.seq ?_)
  refine Tr.cut (α := Mem × Option Addr × Nat) (fun y => ⟨225, [(2, .int .i64 470), (3, .slice A3 bA.length c3), (4, .int .i64 0), (5, .pointer (some ⟨b5, 0, none⟩)), (6, .slice A6 1 c6), (7, .slice A7 1 c7), (8, .slice A8 0 c8), (9, .slice A9 (bA.take 10).length c9), (10, .slice A10 0 c10), (11, .slice A11 0 c11), (12, .slice A12 0 c12), (13, .int .i64 2), (14, .slice A14 1 c14), (15, .int .i64 1), (17, .int .i64 470), (18, .pointer (some ⟨b18, 0, none⟩)), (19, .slice y.2.1 xA.length y.2.2), (20, .int .i64 0)], [], y.1, ([] ++ F)⟩) (fun y => Mem.le M12 y.1 ∧ BSl y.1 (.slice y.2.1 xA.length y.2.2) xA) ?_ (fun y hy => ?_)
  · skip
    (repeat (first | ((with_reducible refine Tr.step rfl ?_); (with_reducible refine Knd.load ?_); (refine Exec.stab rfl (Stab.loadMA rfl (tysOk.get rfl) rfl (by assumption) (by first | rfl | assumption)) rfl ?_)) | (with_reducible refine Tr.region ?_)))
    ((refine Tr.step rfl ?_)); refine Exec.call0 rfl (pack_fn M12 hK mA cs18 h18) rfl ?_
    rintro _ N2 hm2 ⟨A9, c9, rfl, hB⟩
    rw [s_pack] at hB ⊢
    dsimp only at hB ⊢
    (repeat (first | ((with_reducible refine Tr.step rfl ?_); (first | (refine xmQ (z := ?_)) | (refine xaQ (z := ?_)) | ((with_reducible refine Knd.extract ?_); (refine Exec.stab rfl (Stab.extract rfl rfl) rfl ?_)))) | (with_reducible refine Tr.nil ?_)))
    exact Tr.land (N2, A9, c9) ⟨hm2, hB⟩ hsQ
  obtain ⟨M13, A19, c19⟩ := y
  obtain ⟨hg13, h19⟩ := hy
  dsimp only at hg13 h19 ⊢
  replace hK := hK.mono hg13
  replace h3 := h3.mono hg13
  replace h5 := h5.mono hg13
  replace h6 := h6.mono RFrm.mono hg13
  replace h7 := h7.mono hg13
  replace h9 := h9.mono hg13
  replace h18a := h18a.mono hg13
  replace h18 := h18.mono hg13
  first | (refine Tr.seq ?_) | (refine Tr.next ?_; refine Tr.seq ?_)
  refine Tr.cut (α := Mem × Nat × List Value) (fun y => ⟨225, [(2, .int .i64 470), (3, .slice A3 bA.length c3), (4, .int .i64 0), (5, .pointer (some ⟨b5, 0, none⟩)), (6, .slice A6 1 c6), (7, .slice A7 1 c7), (8, .slice A8 0 c8), (9, .slice A9 (bA.take 10).length c9), (10, .slice A10 0 c10), (11, .slice A11 0 c11), (12, .slice A12 0 c12), (13, .int .i64 2), (14, .slice A14 1 c14), (15, .int .i64 1), (17, .int .i64 470), (18, .pointer (some ⟨b18, 0, none⟩)), (19, .slice A19 xA.length c19), (20, .int .i64 0), (21, .pointer (some ⟨y.2.1, 0, none⟩)), (22, .int .i64 0)], [], y.1, ([] ++ F)⟩) (fun y => Mem.le M13 y.1 ∧ At y.1 ⟨y.2.1, 0, none⟩ y.2.2 ∧ y.2.2.length = 43 ∧ RMsg y.1 y.2.2 mA) ?_ (fun y hy => ?_)
  · skip
    (repeat (first | ((with_reducible refine Tr.step rfl ?_); (with_reducible refine Knd.move ?_); (refine xmQ (z := ?_))) | (with_reducible refine Tr.region ?_)))
    ((refine Tr.step rfl ?_)); refine Exec.call0 rfl (unpack_fn M13 hK _ _ xA h19) rfl ?_
    intro r N2 hm2 hR
    rw [s_unpack] at hR
    obtain ⟨cs, rfl, hM⟩ := hR
    have hM0 := hM
    obtain ⟨⟨h0, h1, h2, h3, h4, h5, h6, A, c, B, d, C, e, pe, rfl, p1, p2, p3⟩, pw, -⟩ := hM0
    have psl2 : (byteV mA.sl).length = 32 := by simpa using pw.1
    have hcl : (Value.int .i64 mA.kind :: .int .i64 h0 :: .int .i64 h1 :: .int .i64 h2 :: .int .i64 h3 :: .int .i64 h4 :: .int .i64 h5 :: .int .i64 h6 :: .slice A mA.labels.length c :: .slice B mA.verdicts.length d :: .slice C mA.rels.length e :: byteV mA.sl).length = 43 := by simp only [List.length_cons, psl2]
    (repeat (first | ((with_reducible refine Tr.step rfl ?_); (first | (refine xmQ (z := ?_)) | (refine xaQ (z := ?_)) | ((with_reducible refine Knd.store ?_); (refine Exec.storeW rfl rfl (tysOk.get rfl) (by repeat (first | exact Upd.here | apply Upd.there)) rfl rfl (by repeat (first | exact AllOne.bytes _ | refine AllOne.cons (by first | rfl | assumption) ?_)) ?_)) | ((with_reducible refine Knd.alloc ?_); (refine Exec.alloc (tysOk.get rfl) rfl rfl (fun b => ?_))) | ((with_reducible refine Knd.extract ?_); (refine Exec.stab rfl (Stab.extract rfl rfl) rfl ?_)))) | (with_reducible refine Tr.nil ?_)))
    refine pbQ (r := box b 27 _) (k := fun N3 hm3 ok3 => ?_)
    exact Tr.land (N3, b, _) ⟨hm2.trans hm3, at_of_box (off := 0) ok3, hcl, hM.mono hm3⟩ hsQ
  obtain ⟨M14, b21, cs21⟩ := y
  obtain ⟨hg14, h21a, h21l, h21⟩ := hy
  dsimp only at hg14 h21a h21l h21 ⊢
  replace hK := hK.mono hg14
  replace h3 := h3.mono hg14
  replace h5 := h5.mono hg14
  replace h6 := h6.mono RFrm.mono hg14
  replace h7 := h7.mono hg14
  replace h9 := h9.mono hg14
  replace h18a := h18a.mono hg14
  replace h18 := h18.mono hg14
  replace h19 := h19.mono hg14
  first | (refine Tr.seq ?_) | (refine Tr.next ?_; refine Tr.seq ?_)
  refine Tr.cut (α := Mem) (fun y => ⟨225, [(2, .int .i64 470), (3, .slice A3 bA.length c3), (4, .int .i64 0), (5, .pointer (some ⟨b5, 0, none⟩)), (6, .slice A6 1 c6), (7, .slice A7 1 c7), (8, .slice A8 0 c8), (9, .slice A9 (bA.take 10).length c9), (10, .slice A10 0 c10), (11, .slice A11 0 c11), (12, .slice A12 0 c12), (13, .int .i64 2), (14, .slice A14 1 c14), (15, .int .i64 1), (17, .int .i64 470), (18, .pointer (some ⟨b18, 0, none⟩)), (19, .slice A19 xA.length c19), (20, .int .i64 0), (21, .pointer (some ⟨b21, 0, none⟩)), (22, .int .i64 0), (24, .int .i64 470)], [], y, ([] ++ F)⟩) (fun y => Mem.le M14 y) ?_ (fun y hy => ?_)
  · skip
    have hcap := h19.cap
    have hxl := xA_len
    (repeat (first | ((with_reducible refine Tr.step rfl ?_); (first | (refine xmQ (z := ?_)) | ((with_reducible refine Knd.buildSlice ?_); (refine Exec.buildSlice (tysOk.get rfl) rfl (tysOk.get rfl) rfl rfl rfl rfl rfl (by repeat (exact BuildP.nil)) rfl (fun b => ?_))))) | (with_reducible refine Tr.region ?_)))
    refine Tr.cells (b := b) (cs' := byteV []) (by repeat (first | exact Upd.here | apply Upd.there)) rfl ?_
    refine Tr.box_own 1 0 (by repeat (first | exact Upd.here | apply Upd.there)) rfl (byteV_one _) (by simp [maxLen]) ?_
    ((refine Tr.step rfl ?_))
    refine Exec.append (news := byteV xA) rfl rfl (tysOk.get rfl) rfl (tysOk.get rfl) rfl rfl rfl rfl (by repeat (first | exact Del.here | apply Del.there)) (Src.row hcap.2.2.2) (by simp) (byteV_one _) (by omega) (by omega) rfl (fun R1 r1 hr1 => ?_)
    (repeat (((with_reducible refine Tr.step rfl ?_); (with_reducible refine Knd.move ?_); (refine xmQ (z := ?_)))))
    ((refine Tr.step rfl ?_))
    refine Exec.append (A := R1) (news := byteV xA) rfl rfl (tysOk.get rfl) rfl (tysOk.get rfl) rfl rfl rfl rfl (by repeat (first | exact Del.here | apply Del.there)) (Src.row hcap.2.2.2) (by simp) (byteV_one _) (by omega) (by omega) rfl (fun R2 r2 hr2 => ?_)
    rw [← byteV_append, ← byteV_append, List.nil_append, show 0 + xA.length + xA.length = (xA ++ xA).length by rw [List.length_append]; omega]
    refine pbQ (r := ownS 5 1 R2 _ _ _) (k := fun N1 hm1 ok1 => ?_)
    have hB1 := BSl.ofOwn ok1 rfl hr2
    ((refine Tr.step rfl ?_)); refine Exec.call0 rfl (unpack_fn N1 (hK.mono hm1) _ _ (xA ++ xA) hB1) rfl ?_
    intro r N2 hm2 hR
    rw [s_twice] at hR
    obtain rfl := hR
    (repeat (first | ((with_reducible refine Tr.step rfl ?_); (first | (refine xmQ (z := ?_)) | (refine xaQ (z := ?_)) | ((with_reducible refine Knd.store ?_); (refine Exec.storeW rfl rfl (tysOk.get rfl) (by repeat (first | exact Upd.here | apply Upd.there)) rfl rfl (by repeat (first | exact AllOne.bytes _ | refine AllOne.cons (by first | rfl | assumption) ?_)) ?_)) | ((with_reducible refine Knd.alloc ?_); (refine Exec.alloc (tysOk.get rfl) rfl rfl (fun b => ?_))) | ((with_reducible refine Knd.extract ?_); (refine Exec.stab rfl (Stab.extract rfl rfl) rfl ?_)))) | (with_reducible refine Tr.nil ?_)))
    exact Tr.land N2 (hm1.trans hm2) hsQ
  generalize y = M15 at *
  have hg15 := hy
  replace hK := hK.mono hg15
  replace h3 := h3.mono hg15
  replace h5 := h5.mono hg15
  replace h6 := h6.mono RFrm.mono hg15
  replace h7 := h7.mono hg15
  replace h9 := h9.mono hg15
  replace h18a := h18a.mono hg15
  replace h18 := h18.mono hg15
  replace h19 := h19.mono hg15
  replace h21a := h21a.mono hg15
  replace h21 := h21.mono hg15
  first | (refine Tr.seq ?_) | (refine Tr.next ?_; refine Tr.seq ?_)
  refine Tr.cut (α := Mem) (fun y => ⟨225, [(2, .int .i64 470), (3, .slice A3 bA.length c3), (4, .int .i64 0), (5, .pointer (some ⟨b5, 0, none⟩)), (6, .slice A6 1 c6), (7, .slice A7 1 c7), (8, .slice A8 0 c8), (9, .slice A9 (bA.take 10).length c9), (10, .slice A10 0 c10), (11, .slice A11 0 c11), (12, .slice A12 0 c12), (13, .int .i64 2), (14, .slice A14 1 c14), (15, .int .i64 1), (17, .int .i64 470), (18, .pointer (some ⟨b18, 0, none⟩)), (19, .slice A19 xA.length c19), (20, .int .i64 0), (21, .pointer (some ⟨b21, 0, none⟩)), (22, .int .i64 0), (24, .int .i64 470), (26, .int .i64 470)], [], y, ([] ++ F)⟩) (fun y => Mem.le M15 y) ?_ (fun y hy => ?_)
  · skip
    (repeat (first | ((with_reducible refine Tr.step rfl ?_); (with_reducible refine Knd.build ?_); (refine Exec.stab rfl (Stab.build tysOk rfl rfl rfl rfl (by repeat (exact BuildP.nil))) rfl ?_)) | (with_reducible refine Tr.region ?_)))
    ((refine Tr.step rfl ?_)); refine Exec.call0 rfl (pack_fn M15 hK mZ zMsg (zMsg_R _)) rfl ?_
    rintro _ N2 hm2 ⟨A9, c9, rfl, hB⟩
    rw [s_pack0]
    (repeat (first | ((with_reducible refine Tr.step rfl ?_); (first | (refine xmQ (z := ?_)) | (refine xaQ (z := ?_)) | ((with_reducible refine Knd.extract ?_); (refine Exec.stab rfl (Stab.extract rfl rfl) rfl ?_)))) | (with_reducible refine Tr.nil ?_)))
    exact Tr.land N2 hm2 hsQ
  generalize y = M16 at *
  have hg16 := hy
  replace hK := hK.mono hg16
  replace h3 := h3.mono hg16
  replace h5 := h5.mono hg16
  replace h6 := h6.mono RFrm.mono hg16
  replace h7 := h7.mono hg16
  replace h9 := h9.mono hg16
  replace h18a := h18a.mono hg16
  replace h18 := h18.mono hg16
  replace h19 := h19.mono hg16
  replace h21a := h21a.mono hg16
  replace h21 := h21.mono hg16
  refine Tr.next ?_
  exact sane_end E F M0 M16 (hg1.trans (hg2.trans (hg3.trans (hg4.trans (hg5.trans (hg6.trans (hg7.trans (hg8.trans (hg9.trans (hg10.trans (hg11.trans (hg12.trans (hg13.trans (hg14.trans (hg15.trans (hg16)))))))))))))))) bA bA_len A3 A6 A7 A8 A9 A10 A11 A12 A14 A19 c3 c6 c7 c8 c9 c10 c11 c12 c14 c19 b5 b18 b21 xA cs18 cs21 h3 h6 h9 h18a h18l h18 h21a h21l h21
end Go.Proofs.YtghjhdbmkilakaaGreatDoor

/-
  Frames: the reference's values of numbers and relations.
  Conditions: none.
-/
namespace Go.Proofs.YtghjhdbmkilakaaGreatDoor
open Go Bf
attribute [local irreducible] Tr Exec Stab HasTy Go.Addr.add IntKind.wrap
set_option maxHeartbeats 4000000 in
theorem rints_own (M : Mem) (l : List Int) (A : Option Addr) (c : Nat) (hp : Ints M (.slice A l.length c) l) (hl : l.length ≤ 1000) (hb : ∀ x ∈ l, -9223372036854775808 ≤ x ∧ x ≤ 9223372036854775807) :
    Bf.Fn Tryz.prog 51 [.slice A l.length c] M [] (fun r M' A' => OwnL M' (l.map nV) r A') := by
  refine Fn.intro Tryz.func51 rfl rfl Tryz.ntmps51 rfl fun E F => ?_
  (repeat (first | ((with_reducible refine Tr.step rfl ?_); (first | (refine xaQ (z := ?_)) | ((with_reducible refine Knd.store ?_); (refine Exec.storeW rfl rfl (tysOk.get rfl) (by repeat (first | exact Upd.here | apply Upd.there)) rfl rfl (by repeat (first | (with_reducible assumption) | exact AllOne.nil | exact AllOne.bytes _ | refine AllOne.cons (by first | rfl | assumption) ?_)) ?_)) | ((with_reducible refine Knd.alloc ?_); (refine Exec.alloc (tysOk.get rfl) rfl rfl (fun b => ?_))) | ((with_reducible refine Knd.build ?_); (refine Exec.stab rfl (Stab.build tysOk rfl rfl rfl rfl (by repeat (first | exact BuildP.nil | ((apply BuildP.one); (rfl); (rfl); (first | rfl | assumption); (repeat (first | exact SetL.z | apply SetL.s))) | ((apply BuildP.many); (rfl); (rfl); (rfl); (rfl); (repeat (first | exact PutL.nil | ((apply PutL.cons); (repeat (first | exact SetL.z | apply SetL.s))))))))) rfl ?_)))) | (with_reducible first | apply Tr.next | apply Tr.seq | apply Tr.region | apply Tr.nil | apply Tr.block)))
  generalize b = b5
  rename_i b4
  refine Tr.own_nil 53 4 ?_
  refine Tr.loop (α := Nat × Option Addr × Nat × List Value × Mem) (fun y => ⟨23, [(4, .int .i64 (y.1 : Int)), (3, .pointer (some ⟨b5, 0, none⟩)), (2, .pointer (some ⟨b4, 0, none⟩)), (0, .slice A l.length c)], [], y.2.2.2.2,
      ownS 53 4 y.2.1 ((l.take y.1).map nV).length y.2.2.1 y.2.2.2.1 :: box b5 53 [.int .i64 3, .int .i64 0, .string ⟨#[]⟩, .slice y.2.1 ((l.take y.1).map nV).length y.2.2.1] :: box b4 53 [.int .i64 0, .int .i64 0, .string ⟨#[]⟩, .slice none 0 0] :: ([] ++ F)⟩)
    (fun y => y.1 ≤ l.length ∧ Mem.le M y.2.2.2.2 ∧ y.2.2.1 ≤ 9223372036854775807 ∧ Elems 4 RVal y.2.2.2.2 y.2.2.2.1 ((l.take y.1).map nV)) (fun y => l.length - y.1) (0, none, 0, [], M) ⟨Nat.zero_le _, Mem.le.refl _, Nat.zero_le _, Elems.nil⟩ hsQ (fun y hy => ?_)
  obtain ⟨i, R, rc, cs, M1⟩ := y
  obtain ⟨hi, hm1, hc, hE⟩ := hy
  dsimp only at hi hm1 hc hE ⊢
  have htl : ((l.take i).map nV).length = i := by rw [List.length_map, List.length_take]; omega
  by_cases hlt : i < l.length
  rotate_left
  · have e : l.take i = l := List.take_of_length_le (by omega)
    rw [e] at hE ⊢
    (repeat (first | ((with_reducible refine Tr.step rfl ?_); (first | (refine xmQ (z := ?_)) | (refine xwQ (z := ?_)) | (refine xnQ (z := ?_)) | (refine xiQ (z := ?_)) | ((with_reducible refine Knd.store ?_); (refine Exec.storeW rfl rfl (tysOk.get rfl) (by repeat (first | exact Upd.here | apply Upd.there)) rfl rfl (by repeat (first | (with_reducible assumption) | exact AllOne.nil | exact AllOne.bytes _ | refine AllOne.cons (by first | rfl | assumption) ?_)) ?_)))) | (with_reducible first | apply Tr.next | apply Tr.seq | apply Tr.region | apply Tr.nil | apply Tr.exit | apply Tr.ret | apply Tr.then_exit) | ((with_reducible refine Tr.in_exit ?_ ?_); (exact rfl)) | (refine Tr.cond_f rfl (by first | (with_reducible assumption) | (with_reducible rfl) | (with_reducible exact (not_not_intro rfl)) | omega) ?_)))
    refine Tr.doneB (A' := [ownS 53 4 R (l.map nV).length rc cs]) [box b5 53 _, box b4 53 _] (by first | exact .inl rfl | exact .inr rfl) rfl (by repeat (first | exact RVs.nil | (apply RVs.cons; (exact RV.cellW (by rfl) (tysOk.get (by rfl)) (by rfl) (by repeat (first | exact Has.here | apply Has.there)) (by first | rfl | assumption))))) hm1 ((List.Perm.swap _ _ _).trans ((List.Perm.swap _ _ _).cons _)) ⟨R, rc, cs, rfl, hc, rfl, hE⟩
  obtain ⟨x, hx⟩ := get_of_lt hlt
  obtain ⟨hA, hat⟩ := Ints.at (hp.mono RI.mono hm1) hx
  have hxb := hb x (List.mem_of_getElem? hx)
  have hts : (l.take (i + 1)).map nV = (l.take i).map nV ++ [nV x] := by rw [List.take_add_one, hx]; simp
  (repeat (first | ((with_reducible refine Tr.step rfl ?_); (first | (refine xmQ (z := ?_)) | (refine xnQ (z := ?_)) | (refine xiQ (z := ?_)))) | (with_reducible first | apply Tr.next | apply Tr.seq | apply Tr.region | apply Tr.nil | apply Tr.skip | apply Tr.block) | (refine Tr.cond_t rfl (by first | (with_reducible assumption) | (with_reducible rfl) | (with_reducible exact (not_not_intro rfl)) | omega) ?_)))
  (((apply Tr.draw (box b5 53 [.int .i64 3, .int .i64 0, .string ⟨#[]⟩, .slice R ((l.take i).map nV).length rc] :: _)); (kernel_rfl)); (refine tkQ 0 (s := by exact sfQ) (h := ?_)); (refine tkQ 2 (s := by exact Stab.move rfl) (h := ?_)); (refine tkQ 3 (s := by exact Stab.move rfl) (h := ?_)); (refine tkQ 1 (s := by exact slQ) (h := ?_)); (refine tkQ 4 (s := by exact sxQ) (h := ?_)); (refine tkQ 5 (s := by exact sMQ) (h := ?_)); (refine TrA.eff 6 rfl (by kernel_rfl) (by first | exact .inl rfl | exact .inr ⟨_, _, _, rfl, rfl, rfl⟩) ?_))
  refine Exec.call0 rfl (int_fn M1 x hxb) rfl ?_
  rintro r M2 hm2 ⟨hR, rfl⟩
  obtain ⟨A3, k3, rfl, hRV3, -⟩ := hR.open_
  obtain ⟨u, hu, hRu⟩ := hRV3
  have hu2 := congrArg (fun v => match v with | Value.agg a => a.toList | _ => []) hu
  simp only [List.toList_toArray] at hu2
  rw [← hu2] at hRu
  refine ⟨hm2, (by exact (Sub.mem (by repeat (first | exact Sub.refl | apply Sub.cons)))), ?_⟩
  ((refine TrA.eff 7 rfl (by kernel_rfl) (by first | exact .inl rfl | exact .inr ⟨_, _, _, rfl, rfl, rfl⟩) ?_); (((refine Knd.buildSlice ?_); ((refine Exec.buildSlice (tysOk.get rfl) rfl (tysOk.get rfl) rfl rfl rfl rfl rfl (by repeat (first | exact BuildP.nil | ((apply BuildP.many); (rfl); (rfl); (rfl); (rfl); (repeat (first | exact PutL.nil | ((apply PutL.cons); (repeat (first | exact SetL.z | apply SetL.s)))))))) rfl (fun b => ?_))))); (refine ⟨(by first | exact Mem.le.refl _ | assumption), (by exact (Sub.mem (by repeat (first | exact Sub.refl | apply Sub.cons)))), ?_⟩); (refine TrA.eff 8 rfl (by kernel_rfl) (by first | exact .inl rfl | exact .inr ⟨_, _, _, rfl, rfl, rfl⟩) ?_))
  refine Exec.append (A := R) (news := [.int .i64 (nV x).k, .int .i64 (nV x).n, .string ⟨(nV x).s.toArray⟩, .slice A3 (nV x).l.length k3]) rfl rfl (tysOk.get rfl) rfl (tysOk.get rfl) rfl rfl rfl rfl (by repeat (first | exact Del.here | apply Del.there)) (Src.box (by repeat (first | exact Has.here | apply Has.there))) rfl (by intro u hu; simp at hu; rcases hu with rfl | rfl | rfl | rfl <;> rfl) (by omega) (by omega) rfl (fun R2 rc2 hrc2 => ?_)
  refine ⟨Mem.le.refl _, (by exact (Sub.mem (by repeat (first | exact Sub.refl | apply Sub.cons)))), ?_⟩
  ((refine tkQ 9 (s := by exact sfQ) (h := ?_)); (refine TrA.effD 10 rfl (by kernel_rfl) (by kernel_rfl) (by first | exact .inl rfl | exact .inr ⟨_, _, _, rfl, rfl, rfl⟩) ?_); (((refine Knd.store ?_); ((refine xSQ (z := ?_))))); (refine ⟨_, fun _ h => h, ?_⟩); (refine TrA.done (by kernel_rfl) ?_))
  refine gvQ (r := box _ 53 [.int .i64 (nV x).k, _, _, _]) (k := ?_)
  rw [show ((l.take i).map nV).length + 1 = ((l.take (i + 1)).map nV).length by rw [hts, List.length_append, List.length_singleton]]
  (repeat (first | ((with_reducible refine Tr.step rfl ?_); (first | (refine xmQ (z := ?_)) | (refine xaQ (z := ?_)) | (refine xdQ (z := ?_)))) | (with_reducible first | apply Tr.next | apply Tr.region | apply Tr.nil | apply Tr.in_normal)))
  refine Tr.again (i + 1, R2, rc2, _, M1) ⟨by simp only; omega, hm1, hrc2, by simp only; rw [hts]; exact elems_snocV hE hRu⟩ (by simp only; omega) hsQ
theorem rints_fn (M : Mem) (l : List Int) (A : Option Addr) (c : Nat) (hp : Ints M (.slice A l.length c) l) (hl : l.length ≤ 1000) (hb : Ok64 (numsV l)) :
    Fn0 Tryz.prog 51 [.slice A l.length c] M (fun r M' => RV M' r (numsV l)) :=
  Fn.publish1 (rints_own M l A c hp hl (fun x hx => (hb.mem hx).nV)) fun _ _ _ _ h => h.pub (M := M) (M'' := M)
theorem RV.news {M : Mem} {r : Value} {v : Val} (h : RV M r v) : ∃ A k, r = .agg (cV v A k).toArray ∧ RVal M (cV v A k) v := by
  obtain ⟨A3, k3, rfl, hRV3, -⟩ := h.open_
  obtain ⟨u, hu, hRu⟩ := hRV3
  have hu2 := congrArg (fun v => match v with | Value.agg a => a.toList | _ => []) hu
  simp only [List.toList_toArray] at hu2
  rw [← hu2] at hRu
  exact ⟨A3, k3, rfl, hRu⟩
set_option maxHeartbeats 4000000 in
theorem rrelation_fn (M : Mem) (x : Rel) (u : List Value) (hx : RRel M u x) (hs : smallR x) (hb : Ok64 (relV x)) :
    Fn0 Tryz.prog 48 [.agg u.toArray] M (fun r M' => RV M' r (relV x)) := by
  obtain ⟨A, c, B, d, rfl, h1, h2⟩ := hx
  have ho : Ok64 (numsV x.out) := hb.l _ (by show _ ∈ [numsV x.out, lV (x.inn.map numsV)]; simp)
  have hi : Ok64 (lV (x.inn.map numsV)) := hb.l _ (by show _ ∈ [numsV x.out, lV (x.inn.map numsV)]; simp)
  have l2 := h2.len_le
  refine Fn.intro Tryz.func48 rfl rfl Tryz.ntmps48 rfl fun E F => ?_
  (repeat (first | ((with_reducible refine Tr.step rfl ?_); (first | (refine xaQ (z := ?_)) | ((with_reducible refine Knd.box ?_); (refine Exec.box rfl rfl (fun b => ?_))) | ((with_reducible refine Knd.alloc ?_); (refine Exec.alloc (tysOk.get rfl) rfl rfl (fun b => ?_))) | ((with_reducible refine Knd.buildSlice ?_); (refine Exec.buildSlice (tysOk.get rfl) rfl (tysOk.get rfl) rfl rfl rfl rfl rfl (by repeat (first | exact BuildP.nil | ((apply BuildP.one); (rfl); (rfl); (first | rfl | assumption); (repeat (first | exact SetL.z | apply SetL.s))) | ((apply BuildP.many); (rfl); (rfl); (rfl); (rfl); (repeat (first | exact PutL.nil | ((apply PutL.cons); (repeat (first | exact SetL.z | apply SetL.s)))))))) rfl (fun b => ?_))))) | (with_reducible first | apply Tr.next | apply Tr.seq | apply Tr.region | apply Tr.nil | apply Tr.block)))
  generalize b = b5
  rename_i b1 b2
  refine Tr.cells (b := b5) (cs' := []) (by repeat (first | exact Upd.here | apply Upd.there)) rfl ?_
  refine Tr.box_own 4 0 (by repeat (first | exact Upd.here | apply Upd.there)) rfl (by simp) (by simp [maxLen]) ?_
  refine Tr.loop (α := Nat × Option Addr × Nat × List Value × Mem) (fun y => ⟨29, [(4, .int .i64 (y.1 : Int)), (3, .slice y.2.1 ((x.inn.take y.1).map numsV).length y.2.2.1), (2, .pointer (some ⟨b2, 0, none⟩)), (1, .pointer (some ⟨b1, 0, none⟩))], [], y.2.2.2.2,
      ownS 53 4 y.2.1 ((x.inn.take y.1).map numsV).length y.2.2.1 y.2.2.2.1 :: box b2 53 [.int .i64 0, .int .i64 0, .string ⟨#[]⟩, .slice none 0 0] :: box b1 49 [.slice A x.out.length c, .slice B x.inn.length d] :: ([] ++ F)⟩)
    (fun y => y.1 ≤ x.inn.length ∧ Mem.le M y.2.2.2.2 ∧ y.2.2.1 ≤ 9223372036854775807 ∧ Elems 4 RVal y.2.2.2.2 y.2.2.2.1 ((x.inn.take y.1).map numsV)) (fun y => x.inn.length - y.1) (0, some ⟨b5, 0, none⟩, 0, [], M) ⟨Nat.zero_le _, Mem.le.refl _, Nat.zero_le _, Elems.nil⟩ hsQ (fun y hy => ?_)
  obtain ⟨i, R, rc, cs, M1⟩ := y
  obtain ⟨hi1, hm1, hc, hE⟩ := hy
  dsimp only at hi1 hm1 hc hE ⊢
  have htl : ((x.inn.take i).map numsV).length = i := by rw [List.length_map, List.length_take]; omega
  have hxl := hs.2.1
  by_cases hlt : i < x.inn.length
  · obtain ⟨z, hz⟩ := get_of_lt hlt
    obtain ⟨hA, ch, hat, A5, k5, rfl, hx5⟩ := (h2.mono RRowI.mono hm1).elem hz
    have hzl := hs.2.2 z (List.mem_of_getElem? hz)
    have hts : (x.inn.take (i + 1)).map numsV = (x.inn.take i).map numsV ++ [numsV z] := by rw [List.take_add_one, hz]; simp
    (repeat (first | ((with_reducible refine Tr.step rfl ?_); (first | (refine xmQ (z := ?_)) | ((with_reducible refine Knd.load ?_); (first | (refine xlQ (z := ?_)) | (refine xMQ (z := ?_)))) | (refine xfQ (z := ?_)) | (refine xnQ (z := ?_)) | (refine xiQ (z := ?_)) | (refine xxQ (z := ?_)))) | (with_reducible first | apply Tr.next | apply Tr.seq | apply Tr.region | apply Tr.nil | apply Tr.skip | apply Tr.block) | (refine Tr.cond_t rfl (by first | (with_reducible assumption) | (with_reducible rfl) | (with_reducible exact (not_not_intro rfl)) | omega) ?_)))
    ((refine Tr.step rfl ?_)); refine Exec.call0 rfl (rints_fn M1 z A5 k5 hx5 hzl (hi.mem (List.mem_of_getElem? hz))) rfl ?_
    rintro r M2 hm2 hR
    obtain ⟨A3, k3, rfl, hRu⟩ := hR.news
    dsimp only [cV] at hRu ⊢
    (repeat (((with_reducible refine Tr.step rfl ?_); (with_reducible refine Knd.buildSlice ?_); (refine Exec.buildSlice (tysOk.get rfl) rfl (tysOk.get rfl) rfl rfl rfl rfl rfl (by repeat (first | exact BuildP.nil | ((apply BuildP.one); (rfl); (rfl); (first | rfl | assumption); (repeat (first | exact SetL.z | apply SetL.s))) | ((apply BuildP.many); (rfl); (rfl); (rfl); (rfl); (repeat (first | exact PutL.nil | ((apply PutL.cons); (repeat (first | exact SetL.z | apply SetL.s)))))))) rfl (fun b => ?_)))))
    ((refine Tr.step rfl ?_))
    refine Exec.append (A := R) (news := cV (numsV z) A3 k3) rfl rfl (tysOk.get rfl) rfl (tysOk.get rfl) rfl rfl rfl rfl (by repeat (first | exact Del.here | apply Del.there)) (Src.box (by repeat (first | exact Has.here | apply Has.there))) rfl (cV_one _ _ _) (by omega) (by omega) rfl (fun R2 rc2 hrc2 => ?_)
    refine gvQ (r := box _ 53 [.int .i64 (numsV z).k, _, _, _]) (k := ?_)
    rw [show ((x.inn.take i).map numsV).length + 1 = ((x.inn.take (i + 1)).map numsV).length by rw [hts, List.length_append, List.length_singleton]]
    (repeat (first | ((with_reducible refine Tr.step rfl ?_); (first | (refine xmQ (z := ?_)) | (refine xaQ (z := ?_)) | (refine xdQ (z := ?_)))) | (with_reducible first | apply Tr.next | apply Tr.region | apply Tr.nil | apply Tr.in_normal)))
    refine Tr.again (i + 1, R2, rc2, _, M2) ⟨by simp only; omega, hm1.trans hm2, hrc2, by simp only; rw [hts]; exact elems_snocV (hE.mono RVal.mono' hm2) hRu⟩ (by simp only; omega) hsQ
  have e : i = x.inn.length := by omega
  subst e
  rw [List.take_of_length_le (Nat.le_refl _)] at hE ⊢
  refine pbQ (r := ownS 53 4 R _ _ _) (k := fun M2 hm2 hok2 => ?_)
  have hin : RVals M2 (.slice R (x.inn.map numsV).length rc) (x.inn.map numsV) := SlOf.ofOwn hok2 rfl hc (hE.mono RVal.mono' hm2)
  (repeat (first | ((with_reducible refine Tr.step rfl ?_); (first | (refine xmQ (z := ?_)) | (refine xlQ (z := ?_)) | (refine xfQ (z := ?_)) | (refine xnQ (z := ?_)) | (refine xiQ (z := ?_)))) | (with_reducible first | apply Tr.next | apply Tr.seq | apply Tr.region | apply Tr.nil | apply Tr.exit | apply Tr.then_exit) | ((with_reducible refine Tr.in_exit ?_ ?_); (exact rfl)) | (refine Tr.cond_f rfl (by first | (with_reducible assumption) | (with_reducible rfl) | (with_reducible exact (not_not_intro rfl)) | omega) ?_)))
  ((refine Tr.step rfl ?_)); refine Exec.call0 rfl (rints_fn M2 x.out A c (h1.mono RI.mono (hm1.trans hm2)) hs.1 ho) rfl ?_
  rintro r1 M3 hm3 hR1
  obtain ⟨A1, k1, rfl, hR1'⟩ := hR1.news
  (repeat (((with_reducible refine Tr.step rfl ?_); (with_reducible refine Knd.move ?_); (refine xmQ (z := ?_)))))
  ((refine Tr.step rfl ?_)); refine Exec.call0 rfl (list_fn M3 R rc (x.inn.map numsV) (SlOf.mono RVal.mono' hin hm3)) rfl ?_
  rintro r2 M4 hm4 ⟨hR2, rfl⟩
  obtain ⟨A2, k2, rfl, hR2'⟩ := hR2.news
  dsimp only [cV]
  (repeat (((with_reducible refine Tr.step rfl ?_); (with_reducible refine Knd.buildSlice ?_); (refine Exec.buildSlice (tysOk.get rfl) rfl (tysOk.get rfl) rfl rfl rfl rfl rfl (by repeat (first | exact BuildP.nil | ((apply BuildP.one); (rfl); (rfl); (first | rfl | assumption); (repeat (first | exact SetL.z | apply SetL.s))) | ((apply BuildP.many); (rfl); (rfl); (rfl); (rfl); (repeat (first | exact PutL.nil | ((apply PutL.cons); (repeat (first | exact SetL.z | apply SetL.s)))))))) rfl (fun b => ?_)))))
  generalize b = b9
  refine Tr.cells (b := b9) (cs' := cV (numsV x.out) A1 k1 ++ cV (lV (x.inn.map numsV)) A2 k2) (by repeat (first | exact Upd.here | apply Upd.there)) rfl ?_
  refine pbQ (r := box b9 53 _) (k := fun M5 hm5 hok => ?_)
  have hm03 := hm1.trans (hm2.trans (hm3.trans hm5))
  have hE := two_vals (hR1'.mono hm5) (hR2'.mono hm5)
  have hS : RVals M5 (.slice (some ⟨b9, 0, none⟩) 2 2) [numsV x.out, lV (x.inn.map numsV)] :=
    SlOf.ofBox hok (fun w hw => (List.mem_append.1 hw).elim (cV_one _ _ _ w) (cV_one _ _ _ w)) (by simp) hE
  ((refine Tr.step rfl ?_))
  refine Exec.call0 rfl (list_fn M5 (some ⟨b9, 0, none⟩) 2 [numsV x.out, lV (x.inn.map numsV)] hS) rfl ?_
  rintro r3 M6 hm6 ⟨hR3, rfl⟩
  obtain ⟨A7, k7, rfl, hR7⟩ := hR3.news
  dsimp only [cV] at hR7 ⊢
  (repeat (first | ((with_reducible refine Tr.step rfl ?_); (with_reducible refine Knd.store ?_); (refine Exec.storeW rfl rfl (tysOk.get rfl) (by repeat (first | exact Upd.here | apply Upd.there)) rfl rfl (by repeat (first | (with_reducible assumption) | exact AllOne.nil | exact AllOne.bytes _ | refine AllOne.cons (by first | rfl | assumption) ?_)) ?_)) | (with_reducible first | apply Tr.next | apply Tr.nil | apply Tr.ret)))
  (refine Tr.done (by first | exact .inl rfl | exact .inr rfl) rfl (by repeat (first | exact RVs.nil | (apply RVs.cons; (exact RV.cellW (by rfl) (tysOk.get (by rfl)) (by rfl) (by repeat (first | exact Has.here | apply Has.there)) (by first | rfl | assumption))))) (by first | exact Mem.le.refl _ | assumption) (by exact ⟨[_, _], rfl⟩) ⟨rfl, ?_⟩)
  exact ⟨_, rfl, hR7⟩
end Go.Proofs.YtghjhdbmkilakaaGreatDoor

/-
  Frames: the reference's numbers of a list.
  Conditions: none.
-/
namespace Go.Proofs.YtghjhdbmkilakaaGreatDoor
open Go Bf
attribute [local irreducible] Tr Exec Stab HasTy Go.Addr.add IntKind.wrap
set_option maxHeartbeats 4000000 in
theorem rnums_fn (M : Mem) (v : Val) (r : Value) (h : RV M r v) (hl : v.l.length ≤ 1000000) :
    Fn0 Tryz.prog 66 [r] M (fun r M' => ∃ A c, r = .slice A (intsF v).length c ∧ Ints M' (.slice A (intsF v).length c) (intsF v)) := by
  obtain ⟨A, c, rfl, hR, hS, -⟩ := h.open_
  refine Fn.intro Tryz.func66 rfl rfl Tryz.ntmps66 rfl fun E F => ?_
  (repeat (first | ((with_reducible refine Tr.step rfl ?_); (first | (refine xaQ (z := ?_)) | ((with_reducible refine Knd.box ?_); (refine Exec.box rfl rfl (fun b => ?_))) | ((with_reducible refine Knd.buildSlice ?_); (refine Exec.buildSlice (tysOk.get rfl) rfl (tysOk.get rfl) rfl rfl rfl rfl rfl (by repeat (first | exact BuildP.nil | ((apply BuildP.one); (rfl); (rfl); (first | rfl | assumption); (repeat (first | exact SetL.z | apply SetL.s))) | ((apply BuildP.many); (rfl); (rfl); (rfl); (rfl); (repeat (first | exact PutL.nil | ((apply PutL.cons); (repeat (first | exact SetL.z | apply SetL.s)))))))) rfl (fun b => ?_))))) | (with_reducible first | apply Tr.next | apply Tr.seq | apply Tr.region | apply Tr.nil | apply Tr.block)))
  generalize b = b5
  rename_i b1
  refine Tr.cells (b := b5) (cs' := intV ((v.l.take 0).map Val.n)) (by repeat (first | exact Upd.here | apply Upd.there)) rfl ?_
  refine Tr.box_own 1 0 (by repeat (first | exact Upd.here | apply Upd.there)) rfl (intV_one _) (by simp [maxLen]) ?_
  refine Tr.loop (α := Nat × Option Addr × Nat) (fun y => ⟨23, [(4, .int .i64 (y.1 : Int)), (3, .slice y.2.1 ((v.l.take y.1).map Val.n).length y.2.2), (1, .pointer (some ⟨b1, 0, none⟩))], [], M, ownS 3 1 y.2.1 ((v.l.take y.1).map Val.n).length y.2.2 (intV ((v.l.take y.1).map Val.n)) :: box b1 53 [.int .i64 v.k, .int .i64 v.n, .string ⟨v.s.toArray⟩, .slice A v.l.length c] :: ([] ++ F)⟩)
    (fun y => y.1 ≤ v.l.length ∧ y.2.2 ≤ 9223372036854775807) (fun y => v.l.length - y.1) (0, some ⟨b5, 0, none⟩, 0) (by simp) hsQ (fun y hy => ?_)
  obtain ⟨i, R, rc⟩ := y
  obtain ⟨hi, hc⟩ := hy
  dsimp only at hi hc ⊢
  have htl : ((v.l.take i).map Val.n).length = i := by rw [List.length_map, List.length_take]; omega
  by_cases hlt : i < v.l.length
  · obtain ⟨x, hx⟩ := get_of_lt hlt
    obtain ⟨hA, ch, hat, hx5⟩ := hS.elem hx
    obtain ⟨A5, k5, rfl, -⟩ := hx5.open_
    have hat1 : At M (((A.getD default).add (i * 4)).add 1) [.int .i64 x.n, .string ⟨x.s.toArray⟩, .slice A5 x.l.length k5] := hat.tail
    have hts : (v.l.take (i + 1)).map Val.n = (v.l.take i).map Val.n ++ [x.n] := by rw [List.take_add_one, hx]; simp
    (repeat (first | ((with_reducible refine Tr.step rfl ?_); (first | (refine xmQ (z := ?_)) | ((with_reducible refine Knd.load ?_); (first | (refine xlQ (z := ?_)) | (refine xMQ (z := ?_)))) | ((with_reducible refine Knd.fieldAddr ?_); (first | (refine xfQ (z := ?_)) | (refine Exec.stab rfl (Stab.fieldD rfl (tysOk.get rfl) rfl rfl (tysOk.get rfl) rfl) rfl ?_))) | (refine xnQ (z := ?_)) | (refine xiQ (z := ?_)) | (refine xxQ (z := ?_)) | ((with_reducible refine Knd.buildSlice ?_); (refine Exec.buildSlice (tysOk.get rfl) rfl (tysOk.get rfl) rfl rfl rfl rfl rfl (by repeat (first | exact BuildP.nil | ((apply BuildP.one); (rfl); (rfl); (first | rfl | assumption); (repeat (first | exact SetL.z | apply SetL.s))) | ((apply BuildP.many); (rfl); (rfl); (rfl); (rfl); (repeat (first | exact PutL.nil | ((apply PutL.cons); (repeat (first | exact SetL.z | apply SetL.s)))))))) rfl (fun b => ?_))))) | (with_reducible first | apply Tr.next | apply Tr.seq | apply Tr.region | apply Tr.nil | apply Tr.skip | apply Tr.block) | (refine Tr.cond_t rfl (by first | (with_reducible assumption) | (with_reducible rfl) | (with_reducible exact (not_not_intro rfl)) | omega) ?_)))
    ((refine Tr.step rfl ?_))
    refine Exec.append (A := R) (news := intV [x.n]) rfl rfl (tysOk.get rfl) rfl (tysOk.get rfl) rfl rfl rfl rfl (by repeat (first | exact Del.here | apply Del.there)) (Src.box (by repeat (first | exact Has.here | apply Has.there))) rfl (intV_one _) (by omega) (by omega) rfl (fun R2 r2 hr2 => ?_)
    refine gvQ (r := box _ 3 _) (k := ?_)
    rw [← intV_append, show ((v.l.take i).map Val.n).length + 1 = ((v.l.take (i + 1)).map Val.n).length by rw [hts, List.length_append]; rfl, ← hts]
    (repeat (first | ((with_reducible refine Tr.step rfl ?_); (first | (refine xmQ (z := ?_)) | (refine xaQ (z := ?_)) | (refine xdQ (z := ?_)))) | (with_reducible first | apply Tr.next | apply Tr.region | apply Tr.nil | apply Tr.in_normal)))
    refine Tr.again (i + 1, R2, r2) ⟨by simp only; omega, hr2⟩ (by simp only; omega) hsQ
  have e : i = v.l.length := by omega
  subst e
  rw [List.take_of_length_le (Nat.le_refl _)]
  refine pbQ (r := ownS 3 1 R _ _ _) (k := fun M2 hm2 hok2 => ?_)
  (repeat (first | ((with_reducible refine Tr.step rfl ?_); (first | (refine xmQ (z := ?_)) | (refine xaQ (z := ?_)) | (refine xlQ (z := ?_)) | (refine xfQ (z := ?_)) | (refine xnQ (z := ?_)) | (refine xiQ (z := ?_)))) | (with_reducible first | apply Tr.next | apply Tr.seq | apply Tr.region | apply Tr.nil | apply Tr.exit | apply Tr.ret | apply Tr.then_exit) | ((with_reducible refine Tr.in_exit ?_ ?_); (exact rfl)) | (refine Tr.cond_f rfl (by first | (with_reducible assumption) | (with_reducible rfl) | (with_reducible exact (not_not_intro rfl)) | omega) ?_)))
  (refine dnQ (hL := by exact ⟨[_], rfl⟩) (k := ⟨rfl, ?_⟩))
  exact ⟨R, rc, rfl, Ints.ofOwn hok2 rfl hc⟩
end Go.Proofs.YtghjhdbmkilakaaGreatDoor

/-
  Frames, plain: values that are not large; what the reference unpacks, case by case.
  Conditions: none.
-/
namespace Go.Proofs.YtghjhdbmkilakaaGreatDoor
open Go Bf
/-- no list within a value is longer than n -/
inductive SmallV (n : Nat) : Val → Prop
  | mk {k m : Int} {s : List UInt8} {l : List Val} (hl : l.length ≤ n) (h : ∀ x ∈ l, SmallV n x) : SmallV n (.mk k m s l)
theorem SmallV.len {n : Nat} {v : Val} (h : SmallV n v) : v.l.length ≤ n := by cases h; assumption
theorem SmallV.mem {n : Nat} {v : Val} (h : SmallV n v) : ∀ x ∈ v.l, SmallV n x := by cases h; assumption
theorem small_of (n : Nat) : ∀ (j : Nat) (v : Val), (enc v).length ≤ j → j ≤ n → formed v = true → SmallV n v := by
  intro j
  induction j with
  | zero => intro v h _ hf; have := enc_pos hf; omega
  | succ j ih =>
    intro v h hj hf
    rcases pure_cases hf with ⟨a, rfl⟩ | ⟨s, rfl⟩ | ⟨l, rfl⟩
    · exact .mk (Nat.zero_le _) (by intro x hx; cases hx)
    · exact .mk (Nat.zero_le _) (by intro x hx; cases hx)
    · have h0 := h
      rw [enc3 rfl] at h
      have h1 := encL_len (l := l) (fun x hx => formed_mem hf hx)
      have h2 : (3 :: (num l.length ++ encL l)).length ≤ j + 1 := h
      simp only [List.length_cons, List.length_append] at h2
      refine .mk (by omega) fun x hx => ih x ?_ (by omega) (formed_mem hf hx)
      have := enc_mem3 (v := .mk 3 0 [] l) rfl hx
      omega
theorem small_dec {bs : List UInt8} {n : Nat} (h : bs.length ≤ n) : SmallV n (decF bs).1 := by
  rcases decF_cases bs with q | ⟨v, q, h1, h2, -⟩
  · rw [q]; exact .mk (Nat.zero_le _) (by intro x hx; cases hx)
  · rw [q]
    have hf := (chk_zero.1 h1).1
    exact small_of n n v (by rw [h2]; exact h) (Nat.le_refl _) hf
theorem refM_not {k : Int} {v : Val} (h : v.l.length ≠ 11) : refM k v = ⟨k, [0, 0, 0, 0, 0, 0, 0], [], [], [], List.replicate 32 0⟩ := by
  unfold refM
  split
  · rename_i e; rw [e] at h; exact absurd rfl h
  · rfl
theorem eleven {l : List Val} (h : l.length = 11) : ∃ a0 a1 a2 a3 a4 a5 a6 a b c d, l = [a0, a1, a2, a3, a4, a5, a6, a, b, c, d] := by
  match l, h with
  | [a0, a1, a2, a3, a4, a5, a6, a, b, c, d], _ => exact ⟨a0, a1, a2, a3, a4, a5, a6, a, b, c, d, rfl⟩
theorem refM_is {k : Int} {v : Val} {a0 a1 a2 a3 a4 a5 a6 a b c d : Val} (h : v.l = [a0, a1, a2, a3, a4, a5, a6, a, b, c, d]) : refM k v = ⟨k, [a0.n, a1.n, a2.n, a3.n, a4.n, a5.n, a6.n], intsF a, intsF b, (relsF c.l).1, if (relsF c.l).2 then sealF d else List.replicate 32 0⟩ := by
  unfold refM
  rw [h]
theorem relsF_step {x p q : Val} {l : List Val} (h : x.l = [p, q]) : relsF (x :: l) = (⟨intsF p, q.l.map intsF⟩ :: (relsF l).1, (relsF l).2) := by
  rw [relsF, h]
theorem relsF_stop {x : Val} {l : List Val} (h : x.l.length ≠ 2) : relsF (x :: l) = ([], false) := by
  rw [relsF]
  split
  · rename_i e; rw [e] at h; exact absurd rfl h
  · rfl
theorem two_of {l : List Val} (h : l.length = 2) : ∃ p q, l = [p, q] := by
  match l, h with
  | [p, q], _ => exact ⟨p, q, rfl⟩
end Go.Proofs.YtghjhdbmkilakaaGreatDoor

