/-
  The codec: the contract of Decode.
  Conditions: none.
-/
import Derived.Test.YtgcjpicnibeemaaC4
import Derived.Test.YtgcjpicnibeemaaBfRec
namespace Go.Proofs.Ytgcjpicnibeemaa
open Go Bf
attribute [local irreducible] Tr Exec Stab HasTy Go.Addr.add IntKind.wrap
def doneCh : List PanicEntry := [{ v := .iface 69 (.agg #[]), recovered := true }]
set_option maxHeartbeats 1000000 in
theorem rec_panic (M : Mem) (b2 b3 : Nat) (a0 a1 a2 a3 e0 : Value) :
    CD Try.prog 32 [.pointer (some ⟨b2, 0, none⟩), .pointer (some ⟨b3, 0, none⟩)] (.panicking failCh) M [box b2 24 [a0, a1, a2, a3], box b3 28 [e0]]
      (fun u' M' A' => u' = .panicking doneCh ∧ M = M' ∧ A' = [box b2 24 [.int .i64 0, .int .i64 0, .string ⟨#[]⟩, .slice none 0 0], box b3 28 [.int .i64 10]]) := by
  refine CD.intro (n := 7) Try.func32 rfl rfl Try.ntmps32 rfl rfl rfl (v := .iface 69 (.agg #[])) (.inl ⟨[], rfl, rfl⟩) fun E F => ?_
  repeat (first | ((with_reducible refine Tr.step rfl ?_); (((with_reducible refine Knd.move ?_); (refine Exec.stab rfl (Stab.move rfl) rfl ?_)))) | (with_reducible refine Tr.seq ?_) | (with_reducible refine Tr.region ?_))
  refine Tr.step rfl ?_
  refine Exec.stab rfl (Stab.ifacene rfl (tysOk.get rfl) rfl) rfl ?_
  repeat (first | ((with_reducible refine Tr.step rfl ?_); (first | ((with_reducible refine Knd.store ?_); (first | (refine Exec.store rfl rfl (tysOk.get rfl) rfl (by first | rfl | assumption) (by repeat (first | exact Upd.here | apply Upd.there)) (by repeat (first | exact SetL.z | apply SetL.s)) ?_) | (refine Exec.storeW rfl rfl (tysOk.get rfl) (by repeat (first | exact Upd.here | apply Upd.there)) rfl rfl (by repeat (first | exact AllOne.nil | refine AllOne.cons (by first | rfl | assumption) ?_)) ?_))) | ((with_reducible refine Knd.build ?_); ((refine Exec.stab rfl (Stab.build tysOk rfl rfl rfl rfl (by repeat (exact BuildP.nil))) rfl ?_))))) | (with_reducible refine Tr.next ?_) | (with_reducible refine Tr.region ?_) | (with_reducible refine Tr.nil ?_) | (refine Tr.cond_bt rfl (by first | (with_reducible rfl) | (with_reducible assumption) | (with_reducible exact Bool.not_true) | (with_reducible exact Bool.not_false)) ?_))
  refine Tr.doneC (by first | exact .inl rfl | exact .inr rfl) rfl (by repeat (exact RVs.nil)) (Mem.le.refl _) DropL.refl ⟨rfl, rfl, rfl⟩
set_option maxHeartbeats 1000000 in
theorem rec_idle (M : Mem) (b2 b3 : Nat) (A : List Res) :
    CD Try.prog 32 [.pointer (some ⟨b2, 0, none⟩), .pointer (some ⟨b3, 0, none⟩)] .returning M A
      (fun u' M' A' => u' = .returning ∧ M = M' ∧ A' = A) := by
  refine CD.intro (n := 7) Try.func32 rfl rfl Try.ntmps32 rfl rfl rfl (v := .nilIface) (.inr ⟨rfl, rfl, rfl⟩) fun E F => ?_
  repeat (first | ((with_reducible refine Tr.step rfl ?_); (((with_reducible refine Knd.move ?_); (refine Exec.stab rfl (Stab.move rfl) rfl ?_)))) | (with_reducible refine Tr.seq ?_) | (with_reducible refine Tr.region ?_))
  refine Tr.step rfl ?_
  refine Exec.stab rfl (Stab.nilne rfl (tysOk.get rfl) rfl) rfl ?_
  repeat (first | (with_reducible refine Tr.next ?_) | (with_reducible refine Tr.nil ?_) | (with_reducible refine Tr.skip ?_) | (refine Tr.cond_bf rfl (by first | (with_reducible rfl) | (with_reducible assumption) | (with_reducible exact Bool.not_true) | (with_reducible exact Bool.not_false)) ?_))
  refine Tr.doneC (by first | exact .inl rfl | exact .inr rfl) rfl (by repeat (exact RVs.nil)) (Mem.le.refl _) DropL.refl ⟨rfl, rfl, rfl⟩

/-- what Decode answers -/
def decF (bs : List UInt8) : Val × Int := match rdV 16 bs with
  | some (v, []) => (v, 0)
  | _ => (zVal, 10)
def RVE (M : Mem) (r : Value) (p : Val × Int) : Prop := ∃ v, r = .tuple #[v, .int .i64 p.2] ∧ RV M v p.1
theorem RV.zero (M : Mem) : RV M (.agg #[.int .i64 0, .int .i64 0, .string ⟨#[]⟩, .slice none 0 0]) zVal := ⟨_, rfl, RVal.zero M⟩
set_option maxHeartbeats 2000000 in
theorem decode_fn (M : Mem) (A : Option Addr) (c : Nat) (bs : List UInt8) (hb : BSl M (.slice A bs.length c) bs) (hl : bs.length ≤ 1000000000) :
    Fn0 Try.prog 18 [.slice A bs.length c] M (fun r M' => RVE M' r (decF bs)) := by
  refine Fn.introD Try.func18 rfl rfl Try.ntmps18 rfl fun E F => ?_
  repeat (first | ((with_reducible refine Tr.step rfl ?_); (first | ((with_reducible refine Knd.makeFunc ?_); (refine Exec.stab rfl (Stab.makeFunc rfl rfl) rfl ?_)) | ((with_reducible refine Knd.alloc ?_); (first | (refine Exec.alloc (tysOk.get rfl) rfl rfl (fun b => ?_)) | (refine Exec.alloc1 (tysOk.get rfl) rfl rfl rfl (fun b => ?_)))))) | (with_reducible refine Tr.next ?_) | (with_reducible refine Tr.seq ?_) | (with_reducible refine Tr.region ?_) | (with_reducible refine Tr.nil ?_))
  refine Tr.step rfl ?_
  refine Exec.defer (first := []) (vs := []) rfl rfl ?_
  repeat (first | ((with_reducible refine Tr.step rfl ?_); (first | ((with_reducible refine Knd.move ?_); (refine Exec.stab rfl (Stab.move rfl) rfl ?_)) | ((with_reducible refine Knd.assign ?_); (refine Exec.stab rfl (Stab.assign rfl) rfl ?_)) | ((with_reducible refine Knd.box ?_); (first | (refine Exec.box rfl rfl (fun b => ?_)) | (refine Exec.box1 rfl (by first | rfl | assumption) rfl (fun b => ?_)))) | ((with_reducible refine Knd.build ?_); ((refine Exec.stab rfl (Stab.build tysOk rfl rfl rfl rfl (by repeat (first | exact BuildP.nil | ((apply BuildP.one); (rfl); (rfl); (first | rfl | assumption); (repeat (first | exact SetL.z | apply SetL.s)))))) rfl ?_))))) | (with_reducible refine Tr.next ?_) | (with_reducible refine Tr.seq ?_) | (with_reducible refine Tr.region ?_) | (with_reducible refine Tr.nil ?_))
  generalize hbr : b = br
  rename_i b2 b3
  ((refine Tr.step rfl ?_))
  refine Exec.callP rfl (value_fn 16 (by omega) M br bs (box br 57 [.slice A bs.length c]) ⟨A, c, rfl, hb⟩ hl) (List.Perm.refl _) rfl (fun v M' A' hm hR => ?_) (fun ch M' A' hm hR => ?_)
  rotate_left
  · obtain ⟨⟨rfl, rfl⟩, hno⟩ := hR
    repeat ((with_reducible refine Tr.then_panic ?_))
    refine Tr.panicD (vs0 := []) (cap := [.pointer (some ⟨b2, 0, none⟩), .pointer (some ⟨b3, 0, none⟩)]) (A := [box b2 24 [.int .i64 0, .int .i64 0, .string ⟨#[]⟩, .slice none 0 0], box b3 28 [.int .i64 0]]) (F1 := [] ++ F) (rec_panic M' b2 b3 _ _ _ _ _) (List.Perm.swap _ _ _) rfl ?_
    rintro u' M'' A'' hm' ⟨rfl, rfl, rfl⟩
    refine ⟨rfl, _, (by repeat (first | exact RVs.nil | (apply RVs.cons; (first | exact RV.cellW (by rfl) (tysOk.get (by rfl)) (by rfl) (by repeat (first | exact Has.here | apply Has.there)) (by rfl) | exact RV.cell (by rfl) (tysOk.get (by rfl)) (by rfl) (by repeat (first | exact Has.here | apply Has.there)))))), hm, [box b2 24 [.int .i64 0, .int .i64 0, .string ⟨#[]⟩, .slice none 0 0], box b3 28 [.int .i64 10]], [], List.Perm.refl _, rfl, ?_⟩
    have e : decF bs = (zVal, 10) := by unfold decF; rw [hno]
    rw [e]
    exact ⟨_, rfl, RV.zero _⟩
  obtain ⟨v, rest, x2, hv, hRV, rfl, hx2⟩ := hR
  obtain ⟨A5, c5, rfl, hRV', -⟩ := hRV.open_
  obtain ⟨A2, c2, rfl, hb2⟩ := hx2
  have hb2l := hb2.len_le
  by_cases hr : 0 < rest.length
  · have e : decF bs = (zVal, 10) := by
      unfold decF
      rw [hv]
      cases rest with
      | nil => simp at hr
      | cons _ _ => rfl
    repeat (first | ((with_reducible refine Tr.step rfl ?_); (first | ((with_reducible refine Knd.move ?_); (refine Exec.stab rfl (Stab.move rfl) rfl ?_)) | ((with_reducible refine Knd.load ?_); ((refine Exec.stab rfl (Stab.load rfl (tysOk.get rfl) rfl (by repeat (first | exact Has.here | apply Has.there)) rfl) rfl ?_))) | ((with_reducible refine Knd.fieldAddr ?_); ((refine Exec.stab rfl (Stab.fieldZ rfl (tysOk.get rfl) rfl rfl (tysOk.get rfl) rfl) rfl ?_))) | ((with_reducible refine Knd.len ?_); ((refine Exec.stab rfl (Stab.len rfl (tysOk.get rfl) rfl) rfl ?_))) | ((with_reducible refine Knd.nilCheck ?_); (refine Exec.stab rfl (Stab.nilCheck rfl) rfl ?_)) | ((with_reducible refine Knd.binOp ?_); ((refine Exec.stab rfl (Stab.int rfl rfl rfl) rfl ?_))) | ((with_reducible refine Knd.store ?_); (first | (refine Exec.store rfl rfl (tysOk.get rfl) rfl (by first | rfl | assumption) (by repeat (first | exact Upd.here | apply Upd.there)) (by repeat (first | exact SetL.z | apply SetL.s)) ?_) | (refine Exec.storeW rfl rfl (tysOk.get rfl) (by repeat (first | exact Upd.here | apply Upd.there)) rfl rfl (by repeat (first | exact AllOne.nil | refine AllOne.cons (by first | rfl | assumption) ?_)) ?_))) | ((with_reducible refine Knd.build ?_); ((refine Exec.stab rfl (Stab.build tysOk rfl rfl rfl rfl (by repeat (exact BuildP.nil))) rfl ?_))))) | (with_reducible refine Tr.next ?_) | (with_reducible refine Tr.seq ?_) | (with_reducible refine Tr.region ?_) | (with_reducible refine Tr.nil ?_) | (with_reducible refine Tr.ret ?_) | (with_reducible refine Tr.then_ret ?_) | (refine Tr.cond_t rfl (by first | (with_reducible assumption) | omega) ?_))
    refine Tr.doneD (vs0 := []) (cap := [.pointer (some ⟨b2, 0, none⟩), .pointer (some ⟨b3, 0, none⟩)]) (A := []) (by first | exact .inl rfl | exact .inr rfl) (rec_idle M' b2 b3 []) (List.Perm.refl _) rfl ?_
    rintro u' M'' A'' hm' ⟨rfl, rfl, rfl⟩
    refine ⟨rfl, _, (by repeat (first | exact RVs.nil | (apply RVs.cons; (first | exact RV.cellW (by rfl) (tysOk.get (by rfl)) (by rfl) (by repeat (first | exact Has.here | apply Has.there)) (by rfl) | exact RV.cell (by rfl) (tysOk.get (by rfl)) (by rfl) (by repeat (first | exact Has.here | apply Has.there)))))), hm, [box br 57 _, box b3 28 _, box b2 24 _], [], List.Perm.refl _, rfl, ?_⟩
    rw [e]
    exact ⟨_, rfl, RV.zero _⟩
  · have e : decF bs = (v, 0) := by
      unfold decF
      rw [hv]
      cases rest with
      | nil => rfl
      | cons _ _ => simp at hr
    repeat (first | ((with_reducible refine Tr.step rfl ?_); (first | ((with_reducible refine Knd.move ?_); (refine Exec.stab rfl (Stab.move rfl) rfl ?_)) | ((with_reducible refine Knd.load ?_); (first | (refine Exec.stab rfl (Stab.load rfl (tysOk.get rfl) rfl (by repeat (first | exact Has.here | apply Has.there)) rfl) rfl ?_) | (refine Exec.stab rfl (Stab.loadW rfl (tysOk.get rfl) rfl (by repeat (first | exact Has.here | apply Has.there)) rfl) rfl ?_))) | ((with_reducible refine Knd.fieldAddr ?_); ((refine Exec.stab rfl (Stab.fieldZ rfl (tysOk.get rfl) rfl rfl (tysOk.get rfl) rfl) rfl ?_))) | ((with_reducible refine Knd.len ?_); ((refine Exec.stab rfl (Stab.len rfl (tysOk.get rfl) rfl) rfl ?_))) | ((with_reducible refine Knd.nilCheck ?_); (refine Exec.stab rfl (Stab.nilCheck rfl) rfl ?_)) | ((with_reducible refine Knd.binOp ?_); ((refine Exec.stab rfl (Stab.int rfl rfl rfl) rfl ?_))) | ((with_reducible refine Knd.store ?_); (first | (refine Exec.store rfl rfl (tysOk.get rfl) rfl (by first | rfl | assumption) (by repeat (first | exact Upd.here | apply Upd.there)) (by repeat (first | exact SetL.z | apply SetL.s)) ?_) | (refine Exec.storeW rfl rfl (tysOk.get rfl) (by repeat (first | exact Upd.here | apply Upd.there)) rfl rfl (by repeat (first | exact AllOne.nil | refine AllOne.cons (by first | rfl | assumption) ?_)) ?_))))) | (with_reducible refine Tr.next ?_) | (with_reducible refine Tr.seq ?_) | (with_reducible refine Tr.region ?_) | (with_reducible refine Tr.nil ?_) | (with_reducible refine Tr.skip ?_) | (with_reducible refine Tr.ret ?_) | (refine Tr.cond_f rfl (by first | (with_reducible assumption) | omega) ?_))
    refine Tr.doneD (vs0 := []) (cap := [.pointer (some ⟨b2, 0, none⟩), .pointer (some ⟨b3, 0, none⟩)]) (A := []) (by first | exact .inl rfl | exact .inr rfl) (rec_idle M' b2 b3 []) (List.Perm.refl _) rfl ?_
    rintro u' M'' A'' hm' ⟨rfl, rfl, rfl⟩
    refine ⟨rfl, _, (by repeat (first | exact RVs.nil | (apply RVs.cons; (first | exact RV.cellW (by rfl) (tysOk.get (by rfl)) (by rfl) (by repeat (first | exact Has.here | apply Has.there)) (by rfl) | exact RV.cell (by rfl) (tysOk.get (by rfl)) (by rfl) (by repeat (first | exact Has.here | apply Has.there)))))), hm, [box br 57 _, box b3 28 _, box b2 24 _], [], List.Perm.refl _, rfl, ?_⟩
    rw [e]
    exact ⟨_, rfl, hRV'⟩
end Go.Proofs.Ytgcjpicnibeemaa
