/-
  The journal: the row of JournalDamage.
  Conditions: none.
-/
import Derived.Test.YtkbggengagockaaBfPan
import Derived.Test.YtkbggengagockaaBfRowU
import Derived.Test.YtkbggengagockaaRows
import Derived.ProofKit
import Derived.Test.YtkbggengagockaaP7c
/-
  The journal: the law JournalDamage walked.
  Conditions: the records are not too many.
-/
namespace Go.Proofs.Ytkbggengagockaa
open Go Bf
attribute [local irreducible] Tr Exec Stab HasTy Go.Addr.add IntKind.wrap
set_option maxHeartbeats 16000000 in
theorem damage_fn (M : Mem) (A0 : Option Addr) (c0 : Nat) (l : List (List UInt8)) (sec at_ : Int) (by_ : UInt8) (h : SlOf 1 RSec M (.slice A0 l.length c0) l) (ht : tot l ≤ 1048576) :
    Fn0 Try.prog 7 [.slice A0 l.length c0, .int .i64 sec, .int .i64 at_, .int .u8 (by_.toNat : Int)] M (fun r _ => r = .bool true) := by
  have hl := h.len_le
  refine Fn.intro Try.func7 rfl rfl Try.ntmps7 rfl fun E F => ?_
  repeat (first | ((with_reducible refine Tr.step rfl ?_); (((with_reducible refine Knd.assign ?_); (refine Exec.stab rfl (Stab.assign rfl) rfl ?_)))) | (with_reducible refine Tr.next ?_) | (with_reducible refine Tr.seq ?_) | (with_reducible refine Tr.region ?_) | (with_reducible refine Tr.nil ?_))
  ((refine Tr.step rfl ?_)); refine Exec.call0 rfl (sane_jfn M) rfl ?_
  rintro _ M1 hm1 rfl
  repeat (first | ((with_reducible refine Tr.step rfl ?_); (((with_reducible refine Knd.unOp ?_); ((refine Exec.stab rfl (Stab.not rfl) rfl ?_))))) | (with_reducible refine Tr.next ?_) | (with_reducible refine Tr.seq ?_) | (with_reducible refine Tr.region ?_) | (with_reducible refine Tr.nil ?_) | (with_reducible refine Tr.skip ?_) | (refine Tr.cond_bf rfl (by first | (with_reducible rfl) | (with_reducible assumption) | (with_reducible exact Bool.not_true) | (with_reducible exact Bool.not_false)) ?_))
  ((refine Tr.step rfl ?_)); refine Exec.call0 rfl (fx_new M1 40 (by decide) (by decide)) rfl ?_
  rintro _ M2 hm2 ⟨Ad, cd, Bd, kd, rfl, hd⟩
  have hm12 := hm1.trans hm2
  have hd0 : RDisk M2 _ (dk D40) := hd
  have hfew := few_jfn M2 _ _ A0 c0 l hd0 (h.mono RSec.mono hm12) ht
  repeat (first | ((with_reducible refine Tr.step rfl ?_); (first | ((with_reducible refine Knd.move ?_); (refine Exec.stab rfl (Stab.move rfl) rfl ?_)) | ((with_reducible refine Knd.assign ?_); (refine Exec.stab rfl (Stab.assign rfl) rfl ?_)) | ((with_reducible refine Knd.binOp ?_); ((refine Exec.stab rfl (Stab.int rfl rfl rfl) rfl ?_))) | ((with_reducible refine Knd.store ?_); ((refine Exec.storeW rfl rfl (tysOk.get rfl) (by repeat (first | exact Upd.here | apply Upd.there)) rfl rfl (by repeat (first | exact AllOne.nil | refine AllOne.cons (by first | rfl | assumption) ?_)) ?_))) | ((with_reducible refine Knd.alloc ?_); (first | (refine Exec.alloc (tysOk.get rfl) rfl rfl (fun b => ?_)) | (refine Exec.alloc1 (tysOk.get rfl) rfl rfl rfl (fun b => ?_)))) | ((with_reducible refine Knd.extract ?_); (refine Exec.stab rfl (Stab.extract rfl rfl) rfl ?_)))) | (with_reducible refine Tr.next ?_) | (with_reducible refine Tr.seq ?_) | (with_reducible refine Tr.region ?_) | (with_reducible refine Tr.nil ?_) | ((refine Tr.guard_y' rfl rfl rfl (by first | (with_reducible assumption) | (with_reducible rfl) | (with_reducible exact (not_not_intro rfl)) | omega) ?_); (first | ((with_reducible refine Knd.move ?_); (refine Exec.stab rfl (Stab.move rfl) rfl ?_)) | ((with_reducible refine Knd.load ?_); ((refine Exec.stab rfl (Stab.loadW rfl (tysOk.get rfl) rfl (by repeat (first | exact Has.here | apply Has.there)) rfl) rfl ?_))))))
  ((refine Tr.guard_y' rfl rfl rfl (by first | (with_reducible assumption) | (with_reducible rfl) | (with_reducible exact (not_not_intro rfl)) | omega) ?_)); refine Exec.call0 rfl (hfew) rfl ?_
  rintro _ _ _ ⟨rfl, rfl⟩
  by_cases hf : fewP (dk D40) l
  rotate_left
  · rw [decide_eq_false hf]
    repeat (first | ((with_reducible refine Tr.step rfl ?_); (first | ((with_reducible refine Knd.move ?_); (refine Exec.stab rfl (Stab.move rfl) rfl ?_)) | ((with_reducible refine Knd.assign ?_); (refine Exec.stab rfl (Stab.assign rfl) rfl ?_)) | ((with_reducible refine Knd.binOp ?_); ((refine Exec.stab rfl (Stab.int rfl rfl rfl) rfl ?_))) | ((with_reducible refine Knd.pick ?_); (first | (refine Exec.stab rfl (Stab.pick_t rfl (by first | (with_reducible rfl) | (with_reducible assumption) | (with_reducible exact Bool.not_true) | (with_reducible exact Bool.not_false)) rfl) rfl ?_) | (refine Exec.stab rfl (Stab.pick_fd rfl (by first | (with_reducible assumption) | (with_reducible rfl) | (with_reducible exact (not_not_intro rfl)) | omega) rfl) rfl ?_))))) | (with_reducible refine Tr.next ?_) | (with_reducible refine Tr.seq ?_) | (with_reducible refine Tr.region ?_) | (with_reducible refine Tr.nil ?_) | (refine Tr.guard_s0 rfl rfl rfl (by first | (with_reducible rfl) | (with_reducible assumption) | (with_reducible exact Bool.not_true) | (with_reducible exact Bool.not_false)) rfl rfl ?_) | ((refine Tr.guard_y' rfl rfl rfl (by first | (with_reducible assumption) | (with_reducible rfl) | (with_reducible exact (not_not_intro rfl)) | omega) ?_); (((with_reducible refine Knd.unOp ?_); ((refine Exec.stab rfl (Stab.not rfl) rfl ?_))))) | (with_reducible refine Tr.ret ?_) | (with_reducible refine Tr.then_ret ?_) | (refine Tr.cond_bt rfl (by first | (with_reducible rfl) | (with_reducible assumption) | (with_reducible exact Bool.not_true) | (with_reducible exact Bool.not_false)) ?_))
    (refine Tr.done (by first | exact .inl rfl | exact .inr rfl) rfl (by repeat (first | exact RVs.nil | (apply RVs.cons; (exact RV.tmp rfl)))) (by first | exact Mem.le.refl _ | assumption) (by exact ⟨[_], rfl⟩) ⟨rfl, ?_⟩)
    rfl
  rw [decide_eq_true hf]
  clear hfew
  by_cases hl0 : l.length = 0
  · repeat (first | ((with_reducible refine Tr.step rfl ?_); (first | ((with_reducible refine Knd.move ?_); (refine Exec.stab rfl (Stab.move rfl) rfl ?_)) | ((with_reducible refine Knd.assign ?_); (refine Exec.stab rfl (Stab.assign rfl) rfl ?_)) | ((with_reducible refine Knd.binOp ?_); ((refine Exec.stab rfl (Stab.int rfl rfl rfl) rfl ?_))) | ((with_reducible refine Knd.pick ?_); (first | (refine Exec.stab rfl (Stab.pick_f rfl (by first | (with_reducible rfl) | (with_reducible assumption) | (with_reducible exact Bool.not_true) | (with_reducible exact Bool.not_false)) rfl) rfl ?_) | (refine Exec.stab rfl (Stab.pick_td rfl (by first | (with_reducible assumption) | (with_reducible rfl) | (with_reducible exact (not_not_intro rfl)) | omega) rfl) rfl ?_) | (refine Exec.stab rfl (Stab.pick_fd rfl (by first | (with_reducible assumption) | (with_reducible rfl) | (with_reducible exact (not_not_intro rfl)) | omega) rfl) rfl ?_))))) | (with_reducible refine Tr.next ?_) | (with_reducible refine Tr.seq ?_) | (with_reducible refine Tr.region ?_) | (with_reducible refine Tr.nil ?_) | ((refine Tr.guard_l rfl rfl rfl (by first | (with_reducible rfl) | (with_reducible assumption) | (with_reducible exact Bool.not_true) | (with_reducible exact Bool.not_false)) ?_); (first | ((with_reducible refine Knd.move ?_); (refine Exec.stab rfl (Stab.move rfl) rfl ?_)) | ((with_reducible refine Knd.len ?_); ((refine Exec.stab rfl (Stab.len rfl (tysOk.get rfl) rfl) rfl ?_))) | ((with_reducible refine Knd.binOp ?_); ((refine Exec.stab rfl (Stab.int rfl rfl rfl) rfl ?_))))) | ((refine Tr.guard_y' rfl rfl rfl (by first | (with_reducible assumption) | (with_reducible rfl) | (with_reducible exact (not_not_intro rfl)) | omega) ?_); (((with_reducible refine Knd.unOp ?_); ((refine Exec.stab rfl (Stab.not rfl) rfl ?_))))) | (refine Tr.guard_n' rfl rfl rfl (by first | (with_reducible assumption) | (with_reducible rfl) | (with_reducible exact (not_not_intro rfl)) | omega) rfl rfl ?_) | (with_reducible refine Tr.ret ?_) | (with_reducible refine Tr.then_ret ?_) | (refine Tr.cond_bt rfl (by first | (with_reducible rfl) | (with_reducible assumption) | (with_reducible exact Bool.not_true) | (with_reducible exact Bool.not_false)) ?_))
    (refine Tr.done (by first | exact .inl rfl | exact .inr rfl) rfl (by repeat (first | exact RVs.nil | (apply RVs.cons; (exact RV.tmp rfl)))) (by first | exact Mem.le.refl _ | assumption) (by exact ⟨[_], rfl⟩) ⟨rfl, ?_⟩)
    rfl
  by_cases hb0 : (by_.toNat : Int) = 0
  · repeat (first | ((with_reducible refine Tr.step rfl ?_); (first | ((with_reducible refine Knd.move ?_); (refine Exec.stab rfl (Stab.move rfl) rfl ?_)) | ((with_reducible refine Knd.assign ?_); (refine Exec.stab rfl (Stab.assign rfl) rfl ?_)) | ((with_reducible refine Knd.binOp ?_); ((refine Exec.stab rfl (Stab.int rfl rfl rfl) rfl ?_))) | ((with_reducible refine Knd.pick ?_); (first | (refine Exec.stab rfl (Stab.pick_f rfl (by first | (with_reducible rfl) | (with_reducible assumption) | (with_reducible exact Bool.not_true) | (with_reducible exact Bool.not_false)) rfl) rfl ?_) | (refine Exec.stab rfl (Stab.pick_fd rfl (by first | (with_reducible assumption) | (with_reducible rfl) | (with_reducible exact (not_not_intro rfl)) | omega) rfl) rfl ?_))))) | (with_reducible refine Tr.next ?_) | (with_reducible refine Tr.seq ?_) | (with_reducible refine Tr.region ?_) | (with_reducible refine Tr.nil ?_) | ((refine Tr.guard_l rfl rfl rfl (by first | (with_reducible rfl) | (with_reducible assumption) | (with_reducible exact Bool.not_true) | (with_reducible exact Bool.not_false)) ?_); (first | ((with_reducible refine Knd.move ?_); (refine Exec.stab rfl (Stab.move rfl) rfl ?_)) | ((with_reducible refine Knd.len ?_); ((refine Exec.stab rfl (Stab.len rfl (tysOk.get rfl) rfl) rfl ?_))) | ((with_reducible refine Knd.binOp ?_); ((refine Exec.stab rfl (Stab.int rfl rfl rfl) rfl ?_))))) | ((refine Tr.guard_y' rfl rfl rfl (by first | (with_reducible assumption) | (with_reducible rfl) | (with_reducible exact (not_not_intro rfl)) | omega) ?_); (first | ((with_reducible refine Knd.move ?_); (refine Exec.stab rfl (Stab.move rfl) rfl ?_)) | ((with_reducible refine Knd.binOp ?_); ((refine Exec.stab rfl (Stab.int rfl rfl rfl) rfl ?_))) | ((with_reducible refine Knd.unOp ?_); ((refine Exec.stab rfl (Stab.not rfl) rfl ?_))))) | (with_reducible refine Tr.ret ?_) | (with_reducible refine Tr.then_ret ?_) | (refine Tr.cond_t rfl (by first | (with_reducible assumption) | (with_reducible rfl) | (with_reducible exact (not_not_intro rfl)) | omega) ?_))
    (refine Tr.done (by first | exact .inl rfl | exact .inr rfl) rfl (by repeat (first | exact RVs.nil | (apply RVs.cons; (exact RV.tmp rfl)))) (by first | exact Mem.le.refl _ | assumption) (by exact ⟨[_], rfl⟩) ⟨rfl, ?_⟩)
    rfl
  repeat (first | ((with_reducible refine Tr.step rfl ?_); (first | ((with_reducible refine Knd.move ?_); (refine Exec.stab rfl (Stab.move rfl) rfl ?_)) | ((with_reducible refine Knd.load ?_); ((refine Exec.stab rfl (Stab.loadW rfl (tysOk.get rfl) rfl (by repeat (first | exact Has.here | apply Has.there)) rfl) rfl ?_))) | ((with_reducible refine Knd.pick ?_); (first | (refine Exec.stab rfl (Stab.pick_f rfl (by first | (with_reducible rfl) | (with_reducible assumption) | (with_reducible exact Bool.not_true) | (with_reducible exact Bool.not_false)) rfl) rfl ?_) | (refine Exec.stab rfl (Stab.pick_fd rfl (by first | (with_reducible assumption) | (with_reducible rfl) | (with_reducible exact (not_not_intro rfl)) | omega) rfl) rfl ?_))))) | (with_reducible refine Tr.next ?_) | (with_reducible refine Tr.seq ?_) | (with_reducible refine Tr.region ?_) | (with_reducible refine Tr.nil ?_) | ((refine Tr.guard_l rfl rfl rfl (by first | (with_reducible rfl) | (with_reducible assumption) | (with_reducible exact Bool.not_true) | (with_reducible exact Bool.not_false)) ?_); (first | ((with_reducible refine Knd.move ?_); (refine Exec.stab rfl (Stab.move rfl) rfl ?_)) | ((with_reducible refine Knd.len ?_); ((refine Exec.stab rfl (Stab.len rfl (tysOk.get rfl) rfl) rfl ?_))) | ((with_reducible refine Knd.binOp ?_); ((refine Exec.stab rfl (Stab.int rfl rfl rfl) rfl ?_))))) | ((refine Tr.guard_y' rfl rfl rfl (by first | (with_reducible assumption) | (with_reducible rfl) | (with_reducible exact (not_not_intro rfl)) | omega) ?_); (first | ((with_reducible refine Knd.move ?_); (refine Exec.stab rfl (Stab.move rfl) rfl ?_)) | ((with_reducible refine Knd.binOp ?_); ((refine Exec.stab rfl (Stab.int rfl rfl rfl) rfl ?_))) | ((with_reducible refine Knd.unOp ?_); ((refine Exec.stab rfl (Stab.not rfl) rfl ?_))))) | (with_reducible refine Tr.skip ?_) | (refine Tr.cond_f rfl (by first | (with_reducible assumption) | (with_reducible rfl) | (with_reducible exact (not_not_intro rfl)) | omega) ?_))
  ((refine Tr.step rfl ?_)); refine Exec.call0 rfl (fx_open M2 _ D40 40 0 [] (hd0.mono (Mem.le.refl _)) D40_open) rfl ?_
  rintro _ M3 hm3 ⟨Aj, cj, rfl, hj⟩
  have hm13 := hm12.trans hm3
  repeat (first | ((with_reducible refine Tr.step rfl ?_); (first | ((with_reducible refine Knd.move ?_); (refine Exec.stab rfl (Stab.move rfl) rfl ?_)) | ((with_reducible refine Knd.assign ?_); (refine Exec.stab rfl (Stab.assign rfl) rfl ?_)) | ((with_reducible refine Knd.len ?_); ((refine Exec.stab rfl (Stab.len rfl (tysOk.get rfl) rfl) rfl ?_))) | ((with_reducible refine Knd.binOp ?_); ((refine Exec.stab rfl (Stab.int rfl rfl rfl) rfl ?_))) | ((with_reducible refine Knd.store ?_); ((refine Exec.storeW rfl rfl (tysOk.get rfl) (by repeat (first | exact Upd.here | apply Upd.there)) rfl rfl (by repeat (first | exact AllOne.nil | refine AllOne.cons (by first | rfl | assumption) ?_)) ?_))) | ((with_reducible refine Knd.alloc ?_); (first | (refine Exec.alloc (tysOk.get rfl) rfl rfl (fun b => ?_)) | (refine Exec.alloc1 (tysOk.get rfl) rfl rfl rfl (fun b => ?_)))) | ((with_reducible refine Knd.extract ?_); (refine Exec.stab rfl (Stab.extract rfl rfl) rfl ?_)))) | (with_reducible refine Tr.next ?_) | (with_reducible refine Tr.seq ?_) | (with_reducible refine Tr.region ?_) | (with_reducible refine Tr.nil ?_) | (with_reducible refine Tr.skip ?_) | (refine Tr.cond_f rfl (by first | (with_reducible assumption) | (with_reducible rfl) | (with_reducible exact (not_not_intro rfl)) | omega) ?_))
  rename_i bd _
  generalize b = bl
  refine Tr.cut (α := Nat × Mem × (Option Addr × Nat) × (Option Addr × Nat)) (fun y => ⟨211, [(13, .slice y.2.2.2.1 y.1 y.2.2.2.2), (11, .pointer (some ⟨bl, 0, none⟩)), (9, .pointer (some ⟨bd, 0, none⟩)), (1, .int .i64 sec), (2, .int .i64 at_), (3, .int .u8 (by_.toNat : Int))], [], y.2.1, ownS 3 1 y.2.2.2.1 y.1 y.2.2.2.2 (intV (endsL l y.1)) :: box bl 29 [.int .i64 40, .int .i64 0, .slice y.2.2.1.1 y.1 y.2.2.1.2] :: box bd 25 [.slice Ad 40 cd, .slice Bd 0 kd, .int .i64 (-1), .bool false] :: ([] ++ F)⟩)
    (fun y => y.1 ≤ l.length ∧ Mem.le M3 y.2.1 ∧ okJ ⟨40, 0, l.take y.1⟩ ∧ y.2.2.2.2 ≤ 9223372036854775807 ∧ RJr y.2.1 (.agg #[.int .i64 40, .int .i64 0, .slice y.2.2.1.1 y.1 y.2.2.1.2]) ⟨40, 0, l.take y.1⟩) ?_ (fun y hy => ?_)
  · refine Tr.own_nil 3 1 ?_
    repeat ((with_reducible refine Tr.block ?_))
    refine Tr.loop (α := Nat × Mem × (Option Addr × Nat) × (Option Addr × Nat)) (fun y => ⟨211, [(62, .int .i64 (y.1 : Int)), (61, .int .i64 l.length), (60, .slice A0 l.length c0), (13, .slice y.2.2.2.1 y.1 y.2.2.2.2), (11, .pointer (some ⟨bl, 0, none⟩)), (9, .pointer (some ⟨bd, 0, none⟩)), (1, .int .i64 sec), (2, .int .i64 at_), (3, .int .u8 (by_.toNat : Int))], [], y.2.1, ownS 3 1 y.2.2.2.1 y.1 y.2.2.2.2 (intV (endsL l y.1)) :: box bl 29 [.int .i64 40, .int .i64 0, .slice y.2.2.1.1 y.1 y.2.2.1.2] :: box bd 25 [.slice Ad 40 cd, .slice Bd 0 kd, .int .i64 (-1), .bool false] :: ([] ++ F)⟩)
      (fun y => y.1 ≤ l.length ∧ Mem.le M3 y.2.1 ∧ okJ ⟨40, 0, l.take y.1⟩ ∧ y.2.2.2.2 ≤ 9223372036854775807 ∧ RJr y.2.1 (.agg #[.int .i64 40, .int .i64 0, .slice y.2.2.1.1 y.1 y.2.2.1.2]) ⟨40, 0, l.take y.1⟩) (fun y => l.length - y.1) (0, M3, (Aj, cj), (none, 0)) ⟨Nat.zero_le _, Mem.le.refl _, okJ_start, by show (0 : Nat) ≤ _; omega, hj⟩ (holds_sub (by repeat (first | exact SubFr.nil | refine SubFr.cons rfl ?_)) (by repeat (first | exact DropL.refl | apply DropL.skip))) (fun y hy => ?_)
    obtain ⟨i, M4, ⟨A4, c4⟩, ⟨A5, c5⟩⟩ := y
    obtain ⟨hi, hm4, hk, hc5, hJ⟩ := hy
    simp only at hi hm4 hk hc5 hJ
    dsimp only
    by_cases hlt : i < l.length
    · obtain ⟨x, hx⟩ := get_of_lt hlt
      obtain ⟨hA, ch, hat, A2, k2, rfl, hxb⟩ := (h.mono RSec.mono (hm13.trans hm4)).elem hx
      have hsm := okJ_small hk
      have hle := okJ_le hk
      dsimp only at hsm hle
      have htx := get_tot hx
      have hst := occs_take hx
      have hi4 : (l.take i).length = i := by rw [List.length_take]; omega
      have happ := append_fn M4 _ ⟨40, 0, l.take i⟩ A2 k2 x hJ hxb (by dsimp only; omega) (by omega) (by dsimp only; omega)
      rw [appF_ok hk] at happ
      dsimp only at happ
      repeat (first | ((with_reducible refine Tr.step rfl ?_); (first | ((with_reducible refine Knd.move ?_); (refine Exec.stab rfl (Stab.move rfl) rfl ?_)) | ((with_reducible refine Knd.assign ?_); (refine Exec.stab rfl (Stab.assign rfl) rfl ?_)) | ((with_reducible refine Knd.load ?_); (first | (refine Exec.stab rfl (Stab.loadW rfl (tysOk.get rfl) rfl (by repeat (first | exact Has.here | apply Has.there)) rfl) rfl ?_) | (refine Exec.stab rfl (Stab.loadM rfl (tysOk.get rfl) rfl (by assumption)) rfl ?_))) | ((with_reducible refine Knd.binOp ?_); ((refine Exec.stab rfl (Stab.int rfl rfl rfl) rfl ?_))) | ((with_reducible refine Knd.indexAddr ?_); ((refine Exec.stab rfl (Stab.indexAddr rfl rfl (tysOk.get rfl) rfl (tysOk.get rfl) rfl (by omega) (by omega) (by first | rfl | assumption)) rfl ?_))))) | (with_reducible refine Tr.next ?_) | (with_reducible refine Tr.seq ?_) | (with_reducible refine Tr.region ?_) | (with_reducible refine Tr.nil ?_) | (with_reducible refine Tr.skip ?_) | (with_reducible refine Tr.block ?_) | (refine Tr.cond_t rfl (by first | (with_reducible assumption) | (with_reducible rfl) | (with_reducible exact (not_not_intro rfl)) | omega) ?_))
      by_cases hfit : ((occ x.length : Nat) : Int) ≤ 40 - ((occs (l.take i) : Nat) : Int)
      · rw [if_pos hfit] at happ
        ((refine Tr.step rfl ?_)); refine Exec.call0 rfl (happ) rfl ?_
        rintro _ M5 hm5 hP
        obtain ⟨A3, c3, rfl, hq⟩ := hP.openJ
        have hk2 := okJ_snoc hk hfit
        have htk : l.take i ++ [x] = l.take (i + 1) := by rw [List.take_add_one, hx]; rfl
        rw [htk] at hq hk2
        dsimp only at hq
        rw [htk]
        have hlen : (l.take (i + 1)).length = i + 1 := by rw [List.length_take]; omega
        rw [hlen] at hq ⊢
        have eN : max (1 : Int) (((x.length : Int) + 111) / 112) = ((occ x.length : Nat) : Int) := by unfold occ; omega
        have hown : (intV (endsL l i)).length = i := by rw [intV_length, endsL_length]
        by_cases h0 : i = 0
        · have o0 : occs (l.take i) = 0 := by rw [h0]; rfl
          repeat (first | ((with_reducible refine Tr.step rfl ?_); (first | ((with_reducible refine Knd.move ?_); (refine Exec.stab rfl (Stab.move rfl) rfl ?_)) | ((with_reducible refine Knd.assign ?_); (refine Exec.stab rfl (Stab.assign rfl) rfl ?_)) | ((with_reducible refine Knd.load ?_); ((refine Exec.stab rfl (Stab.loadW rfl (tysOk.get rfl) rfl (by repeat (first | exact Has.here | apply Has.there)) rfl) rfl ?_))) | ((with_reducible refine Knd.len ?_); ((refine Exec.stab rfl (Stab.len rfl (tysOk.get rfl) rfl) rfl ?_))) | ((with_reducible refine Knd.max ?_); (refine Exec.stab rfl (Stab.max2 rfl rfl) rfl ?_)) | ((with_reducible refine Knd.binOp ?_); (first | (refine Exec.stab rfl (Stab.addi rfl rfl (by omega)) rfl ?_) | (refine Exec.stab rfl (Stab.int rfl rfl rfl) rfl ?_) | (refine Exec.stab rfl (Stab.quoi rfl rfl (by omega) (by omega) (by omega)) rfl ?_))) | ((with_reducible refine Knd.store ?_); ((refine Exec.storeW rfl rfl (tysOk.get rfl) (by repeat (first | exact Upd.here | apply Upd.there)) rfl rfl (by repeat (first | exact AllOne.nil | refine AllOne.cons (by first | rfl | assumption) ?_)) ?_))) | ((with_reducible refine Knd.alloc ?_); (first | (refine Exec.alloc (tysOk.get rfl) rfl rfl (fun b => ?_)) | (refine Exec.alloc1 (tysOk.get rfl) rfl rfl rfl (fun b => ?_)))) | ((with_reducible refine Knd.extract ?_); (refine Exec.stab rfl (Stab.extract rfl rfl) rfl ?_)) | ((with_reducible refine Knd.buildSlice ?_); ((refine Exec.buildSlice (tysOk.get rfl) rfl (tysOk.get rfl) rfl rfl rfl rfl rfl (by repeat (first | exact BuildP.nil | ((apply BuildP.one); (rfl); (rfl); (first | rfl | assumption); (repeat (first | exact SetL.z | apply SetL.s))))) rfl (fun b => ?_)))))) | (with_reducible refine Tr.next ?_) | (with_reducible refine Tr.seq ?_) | (with_reducible refine Tr.region ?_) | (with_reducible refine Tr.nil ?_) | (with_reducible refine Tr.skip ?_) | (refine Tr.cond_f rfl (by first | (with_reducible assumption) | (with_reducible rfl) | (with_reducible exact (not_not_intro rfl)) | omega) ?_))
          ((refine Tr.step rfl ?_))
          refine Exec.append (news := [.int .i64 (max (1 : Int) (((x.length : Int) + 111) / 112))]) rfl rfl (tysOk.get rfl) rfl (tysOk.get rfl) rfl rfl rfl rfl (by repeat (first | exact Del.here | apply Del.there)) (Src.box (by repeat (first | exact Has.here | apply Has.there))) rfl (by intro u hu; simp at hu; subst hu; rfl) (by omega) (by omega) rfl (fun A7 c7 hc7 => ?_)
          rw [ends_eq l hx (by omega)]
          repeat (first | ((with_reducible refine Tr.step rfl ?_); (first | ((with_reducible refine Knd.move ?_); (refine Exec.stab rfl (Stab.move rfl) rfl ?_)) | ((with_reducible refine Knd.assign ?_); (refine Exec.stab rfl (Stab.assign rfl) rfl ?_)) | ((with_reducible refine Knd.binOp ?_); ((refine Exec.stab rfl (Stab.addi rfl rfl (by omega)) rfl ?_))))) | (with_reducible refine Tr.next ?_) | (with_reducible refine Tr.region ?_) | (with_reducible refine Tr.nil ?_) | (with_reducible refine Tr.in_normal ?_))
          refine Tr.give (r := box _ 3 _) (by repeat (first | exact Del.here | apply Del.there)) ?_
          refine Tr.give (r := box _ 29 [_, _, _]) (by repeat (first | exact Del.here | apply Del.there)) ?_
          refine Tr.again (i + 1, M5, (A3, c3), (A7, c7)) ⟨by simp only; omega, hm4.trans hm5, hk2, hc7, hq⟩ (by simp only; omega) (holds_sub (by repeat (first | exact SubFr.nil | refine SubFr.cons rfl ?_)) (by repeat (first | exact DropL.refl | apply DropL.skip)))
        · have e1 : ((i : Int) - 1).toNat = i - 1 := by omega
          have hv : (intV (endsL l i))[((i : Int) - 1).toNat]? = some (.int .i64 ((occs (l.take i) : Nat) : Int)) := by
            have h1 := intV_get (endsL_get (l := l) (i := i) (j := i - 1) (by omega))
            rw [e1, h1, show i - 1 + 1 = i by omega]
          have hmx : (0 : Int) ≤ max (1 : Int) (((x.length : Int) + 111) / 112) := by rw [eN]; omega
          repeat (first | ((with_reducible refine Tr.step rfl ?_); (first | ((with_reducible refine Knd.move ?_); (refine Exec.stab rfl (Stab.move rfl) rfl ?_)) | ((with_reducible refine Knd.assign ?_); (refine Exec.stab rfl (Stab.assign rfl) rfl ?_)) | ((with_reducible refine Knd.load ?_); ((refine Exec.stab rfl (Stab.loadW rfl (tysOk.get rfl) rfl (by repeat (first | exact Has.here | apply Has.there)) rfl) rfl ?_))) | ((with_reducible refine Knd.len ?_); ((refine Exec.stab rfl (Stab.len rfl (tysOk.get rfl) rfl) rfl ?_))) | ((with_reducible refine Knd.max ?_); (refine Exec.stab rfl (Stab.max2 rfl rfl) rfl ?_)) | ((with_reducible refine Knd.binOp ?_); (first | (refine Exec.stab rfl (Stab.addi rfl rfl (by omega)) rfl ?_) | (refine Exec.stab rfl (Stab.subi rfl rfl (by omega)) rfl ?_) | (refine Exec.stab rfl (Stab.int rfl rfl rfl) rfl ?_) | (refine Exec.stab rfl (Stab.quoi rfl rfl (by omega) (by omega) (by omega)) rfl ?_))) | ((with_reducible refine Knd.store ?_); ((refine Exec.storeW rfl rfl (tysOk.get rfl) (by repeat (first | exact Upd.here | apply Upd.there)) rfl rfl (by repeat (first | exact AllOne.nil | refine AllOne.cons (by first | rfl | assumption) ?_)) ?_))) | ((with_reducible refine Knd.alloc ?_); (first | (refine Exec.alloc (tysOk.get rfl) rfl rfl (fun b => ?_)) | (refine Exec.alloc1 (tysOk.get rfl) rfl rfl rfl (fun b => ?_)))) | ((with_reducible refine Knd.extract ?_); (refine Exec.stab rfl (Stab.extract rfl rfl) rfl ?_)))) | (with_reducible refine Tr.next ?_) | (with_reducible refine Tr.seq ?_) | (with_reducible refine Tr.region ?_) | (with_reducible refine Tr.nil ?_) | (with_reducible refine Tr.skip ?_) | (refine Tr.cond_t rfl (by first | (with_reducible assumption) | (with_reducible rfl) | (with_reducible exact (not_not_intro rfl)) | omega) ?_) | (refine Tr.cond_f rfl (by first | (with_reducible assumption) | (with_reducible rfl) | (with_reducible exact (not_not_intro rfl)) | omega) ?_))
          refine Tr.own_some A5 (e := 3) (sz := 1) (m := i) (c := c5) (xs := intV (endsL l i)) (by repeat (first | exact Has.here | apply Has.there)) (by omega) (fun hA5 => ?_)
          repeat (first | ((with_reducible refine Tr.step rfl ?_); (first | ((with_reducible refine Knd.move ?_); (refine Exec.stab rfl (Stab.move rfl) rfl ?_)) | ((with_reducible refine Knd.assign ?_); (refine Exec.stab rfl (Stab.assign rfl) rfl ?_)) | ((with_reducible refine Knd.load ?_); ((refine Exec.stab rfl (Stab.loadO rfl (tysOk.get rfl) rfl (by repeat (first | exact Has.here | apply Has.there)) (by assumption)) rfl ?_))) | ((with_reducible refine Knd.binOp ?_); ((refine Exec.stab rfl (Stab.addi rfl rfl (by omega)) rfl ?_))) | ((with_reducible refine Knd.indexAddr ?_); ((refine Exec.stab rfl (Stab.indexAddr rfl rfl (tysOk.get rfl) rfl (tysOk.get rfl) rfl (by omega) (by omega) (by first | rfl | assumption)) rfl ?_))) | ((with_reducible refine Knd.buildSlice ?_); ((refine Exec.buildSlice (tysOk.get rfl) rfl (tysOk.get rfl) rfl rfl rfl rfl rfl (by repeat (first | exact BuildP.nil | ((apply BuildP.one); (rfl); (rfl); (first | rfl | assumption); (repeat (first | exact SetL.z | apply SetL.s))))) rfl (fun b => ?_)))))) | (with_reducible refine Tr.next ?_) | (with_reducible refine Tr.region ?_) | (with_reducible refine Tr.nil ?_))
          ((refine Tr.step rfl ?_))
          refine Exec.append (news := [.int .i64 (max (1 : Int) (((x.length : Int) + 111) / 112) + ((occs (l.take i) : Nat) : Int))]) rfl rfl (tysOk.get rfl) rfl (tysOk.get rfl) rfl rfl rfl rfl (by repeat (first | exact Del.here | apply Del.there)) (Src.box (by repeat (first | exact Has.here | apply Has.there))) rfl (by intro u hu; simp at hu; subst hu; rfl) (by omega) (by omega) rfl (fun A7 c7 hc7 => ?_)
          rw [ends_eq l hx (by omega)]
          repeat (first | ((with_reducible refine Tr.step rfl ?_); (first | ((with_reducible refine Knd.move ?_); (refine Exec.stab rfl (Stab.move rfl) rfl ?_)) | ((with_reducible refine Knd.assign ?_); (refine Exec.stab rfl (Stab.assign rfl) rfl ?_)) | ((with_reducible refine Knd.binOp ?_); ((refine Exec.stab rfl (Stab.addi rfl rfl (by omega)) rfl ?_))))) | (with_reducible refine Tr.next ?_) | (with_reducible refine Tr.region ?_) | (with_reducible refine Tr.nil ?_) | (with_reducible refine Tr.in_normal ?_))
          refine Tr.give (r := box _ 3 _) (by repeat (first | exact Del.here | apply Del.there)) ?_
          refine Tr.give (r := box _ 29 [_, _, _]) (by repeat (first | exact Del.here | apply Del.there)) ?_
          refine Tr.again (i + 1, M5, (A3, c3), (A7, c7)) ⟨by simp only; omega, hm4.trans hm5, hk2, hc7, hq⟩ (by simp only; omega) (holds_sub (by repeat (first | exact SubFr.nil | refine SubFr.cons rfl ?_)) (by repeat (first | exact DropL.refl | apply DropL.skip)))
      · rw [if_neg hfit] at happ
        ((refine Tr.step rfl ?_)); refine Exec.call0 rfl (happ) rfl ?_
        rintro _ M5 hm5 hP
        obtain ⟨A3, c3, rfl, hq⟩ := hP.openJ
        repeat (first | ((with_reducible refine Tr.step rfl ?_); (first | ((with_reducible refine Knd.move ?_); (refine Exec.stab rfl (Stab.move rfl) rfl ?_)) | ((with_reducible refine Knd.assign ?_); (refine Exec.stab rfl (Stab.assign rfl) rfl ?_)) | ((with_reducible refine Knd.binOp ?_); ((refine Exec.stab rfl (Stab.int rfl rfl rfl) rfl ?_))) | ((with_reducible refine Knd.store ?_); ((refine Exec.storeW rfl rfl (tysOk.get rfl) (by repeat (first | exact Upd.here | apply Upd.there)) rfl rfl (by repeat (first | exact AllOne.nil | refine AllOne.cons (by first | rfl | assumption) ?_)) ?_))) | ((with_reducible refine Knd.alloc ?_); (first | (refine Exec.alloc (tysOk.get rfl) rfl rfl (fun b => ?_)) | (refine Exec.alloc1 (tysOk.get rfl) rfl rfl rfl (fun b => ?_)))) | ((with_reducible refine Knd.extract ?_); (refine Exec.stab rfl (Stab.extract rfl rfl) rfl ?_)))) | (with_reducible refine Tr.next ?_) | (with_reducible refine Tr.seq ?_) | (with_reducible refine Tr.region ?_) | (with_reducible refine Tr.nil ?_) | (with_reducible refine Tr.exit ?_) | (with_reducible refine Tr.then_exit ?_) | ((with_reducible refine Tr.in_exit ?_ ?_); (exact rfl)) | ((with_reducible refine Tr.in_exit' ?_ ?_); (exact rfl)) | (refine Tr.cond_t rfl (by first | (with_reducible assumption) | (with_reducible rfl) | (with_reducible exact (not_not_intro rfl)) | omega) ?_))
        refine Tr.give (r := box _ 29 [_, _, _]) (by repeat (first | exact Del.here | apply Del.there)) ?_
        refine Tr.land (i, M5, (A4, c4), (A5, c5)) ⟨hi, hm4.trans hm5, hk, hc5, hJ.mono hm5⟩ (holds_sub (by repeat (first | exact SubFr.nil | refine SubFr.cons rfl ?_)) (by repeat (first | exact DropL.refl | apply DropL.skip)))
    · repeat (first | ((with_reducible refine Tr.step rfl ?_); (((with_reducible refine Knd.binOp ?_); ((refine Exec.stab rfl (Stab.int rfl rfl rfl) rfl ?_))))) | (with_reducible refine Tr.next ?_) | (with_reducible refine Tr.seq ?_) | (with_reducible refine Tr.region ?_) | (with_reducible refine Tr.nil ?_) | (with_reducible refine Tr.exit ?_) | (with_reducible refine Tr.then_exit ?_) | ((with_reducible refine Tr.in_exit ?_ ?_); (exact rfl)) | (refine Tr.cond_f rfl (by first | (with_reducible assumption) | (with_reducible rfl) | (with_reducible exact (not_not_intro rfl)) | omega) ?_))
      refine Tr.land (i, M4, (A4, c4), (A5, c5)) ⟨hi, hm4, hk, hc5, hJ⟩ (holds_sub (by repeat (first | exact SubFr.nil | refine SubFr.cons rfl ?_)) (by repeat (first | exact DropL.refl | apply DropL.skip)))
  obtain ⟨i, M4, ⟨A4, c4⟩, ⟨A5, c5⟩⟩ := y
  obtain ⟨hi, hm4, hk, hc5, hJ⟩ := hy
  simp only at hi hm4 hk hc5 hJ
  dsimp only
  have hle := okJ_le hk
  have hlen : (l.take i).length = i := by rw [List.length_take]; omega
  have hm14 := hm13.trans hm4
  refine Tr.publish (r := ownS 3 1 _ _ _ _) (by repeat (first | exact Del.here | apply Del.there)) (fun M5 hm5 hok => ?_)
  have hE : Ints M5 (.slice A5 i c5) (endsL (l.take i) i) := by
    have h1 := Ints.ofOwn hok (by rw [endsL_length]) hc5
    rw [endsL_length, endsL_take l i hi] at h1
    exact h1
  clear hok
  generalize l.take i = T at hk hle hlen hJ hE
  subst hlen
  have o0 : occs (recs D40) = 0 := by rw [D40_recs]; rfl
  have g0 : gmax D40 + 1 < 4294967296 := by rw [D40_gmax]; decide
  have s1 : syncJ ⟨40, 0, T⟩ (dk D40) = (⟨40, (T.length : Int), T⟩, dk (after D40 T), 0) := syncJ_run (j := ⟨40, 0, T⟩) (D := D40) hk D40_128 (by rw [D40_len]; rfl) (by rw [D40_recs]; rfl) (by omega)
  have x1 := after_128 (T := T) g0 D40_128
  have l1 : (after D40 T).length = 40 := by rw [after_length (by rw [o0, D40_len]; omega), D40_len]
  have hdm := fun (k i : Nat) (s : List UInt8) (x y : UInt8) => damage_plain (D := D40) (A := T) D40_recs D40_gmax (by rw [D40_len]; omega) (by rw [D40_len]; decide) D40_128 (k := k) (i := i) (s := s) (x := x) (y := y)
  generalize after D40 T = DA at s1 x1 l1 hdm
  have hsy := fx_sync M5 _ _ ⟨40, 0, T⟩ D40 DA 40 _ _ (hJ.mono hm5) (hd0.mono (hm3.trans (hm4.trans hm5))) (by show occs T ≤ _; omega) s1
  repeat (first | ((with_reducible refine Tr.step rfl ?_); (((with_reducible refine Knd.load ?_); ((refine Exec.stab rfl (Stab.loadW rfl (tysOk.get rfl) rfl (by repeat (first | exact Has.here | apply Has.there)) rfl) rfl ?_))))) | (with_reducible refine Tr.next ?_) | (with_reducible refine Tr.seq ?_) | (with_reducible refine Tr.region ?_))
  ((refine Tr.step rfl ?_)); refine Exec.call0 rfl (hsy) rfl ?_
  rintro _ M6 hm6 ⟨A6, c6, A7, c7, B7, k7, rfl, hj2, hd2⟩
  clear s1 hsy
  by_cases hz : T.length = 0
  · repeat (first | ((with_reducible refine Tr.step rfl ?_); (first | ((with_reducible refine Knd.move ?_); (refine Exec.stab rfl (Stab.move rfl) rfl ?_)) | ((with_reducible refine Knd.assign ?_); (refine Exec.stab rfl (Stab.assign rfl) rfl ?_)) | ((with_reducible refine Knd.binOp ?_); ((refine Exec.stab rfl (Stab.int rfl rfl rfl) rfl ?_))) | ((with_reducible refine Knd.pick ?_); ((refine Exec.stab rfl (Stab.pick_fd rfl (by first | (with_reducible assumption) | (with_reducible rfl) | (with_reducible exact (not_not_intro rfl)) | omega) rfl) rfl ?_))) | ((with_reducible refine Knd.store ?_); ((refine Exec.storeW rfl rfl (tysOk.get rfl) (by repeat (first | exact Upd.here | apply Upd.there)) rfl rfl (by repeat (first | exact AllOne.nil | refine AllOne.cons (by first | rfl | assumption) ?_)) ?_))) | ((with_reducible refine Knd.alloc ?_); (first | (refine Exec.alloc (tysOk.get rfl) rfl rfl (fun b => ?_)) | (refine Exec.alloc1 (tysOk.get rfl) rfl rfl rfl (fun b => ?_)))) | ((with_reducible refine Knd.extract ?_); (refine Exec.stab rfl (Stab.extract rfl rfl) rfl ?_)))) | (with_reducible refine Tr.next ?_) | (with_reducible refine Tr.seq ?_) | (with_reducible refine Tr.region ?_) | (with_reducible refine Tr.nil ?_) | ((refine Tr.guard_y' rfl rfl rfl (by first | (with_reducible assumption) | (with_reducible rfl) | (with_reducible exact (not_not_intro rfl)) | omega) ?_); (first | ((with_reducible refine Knd.move ?_); (refine Exec.stab rfl (Stab.move rfl) rfl ?_)) | ((with_reducible refine Knd.len ?_); ((refine Exec.stab rfl (Stab.len rfl (tysOk.get rfl) rfl) rfl ?_))) | ((with_reducible refine Knd.binOp ?_); ((refine Exec.stab rfl (Stab.int rfl rfl rfl) rfl ?_))))) | (with_reducible refine Tr.ret ?_) | (with_reducible refine Tr.then_ret ?_) | (refine Tr.cond_t rfl (by first | (with_reducible assumption) | (with_reducible rfl) | (with_reducible exact (not_not_intro rfl)) | omega) ?_))
    have hlast := hm14.trans (hm5.trans hm6)
    (refine Tr.done (by first | exact .inl rfl | exact .inr rfl) rfl (by repeat (first | exact RVs.nil | (apply RVs.cons; (exact RV.tmp rfl)))) (by first | exact Mem.le.refl _ | assumption) (by exact ⟨[_, _, _, _], rfl⟩) ⟨rfl, ?_⟩)
    rfl
  have hlo := len_le_occs T
  have hE6 : Ints M6 _ _ := hE.mono RI.mono hm6
  have eIx : ((T.length : Int) - 1).toNat = T.length - 1 := by omega
  obtain ⟨hA5, hlast⟩ := hE6.at (endsL_get (l := T) (i := T.length) (j := T.length - 1) (by omega))
  rw [show T.length - 1 + 1 = T.length by omega, List.take_length] at hlast
  have hlast' : At M6 ((A5.getD default).add (((T.length : Int) - 1).toNat * 1)) [.int .i64 ((occs T : Nat) : Int)] := by rw [eIx]; exact hlast
  clear hlast
  have hw1 : 0 ≤ IntKind.u64.wrap sec := (wrap_u64_range sec).1
  have hw2 : 0 ≤ IntKind.u64.wrap at_ := (wrap_u64_range at_).1
  obtain ⟨K, hK, hKl⟩ : ∃ K : Nat, IntKind.u64.wrap sec % ((occs T : Nat) : Int) = (K : Int) ∧ K < occs T := by
    have p1 := Int.emod_nonneg (IntKind.u64.wrap sec) (b := ((occs T : Nat) : Int)) (by omega)
    have p2 := Int.emod_lt_of_pos (IntKind.u64.wrap sec) (b := ((occs T : Nat) : Int)) (by omega)
    exact ⟨(IntKind.u64.wrap sec % ((occs T : Nat) : Int)).toNat, by omega, by omega⟩
  repeat (first | ((with_reducible refine Tr.step rfl ?_); (first | ((with_reducible refine Knd.move ?_); (refine Exec.stab rfl (Stab.move rfl) rfl ?_)) | ((with_reducible refine Knd.assign ?_); (refine Exec.stab rfl (Stab.assign rfl) rfl ?_)) | ((with_reducible refine Knd.load ?_); (first | (refine Exec.stab rfl (Stab.load rfl (tysOk.get rfl) rfl (by repeat (first | exact Has.here | apply Has.there)) rfl) rfl ?_) | (refine Exec.stab rfl (Stab.loadM rfl (tysOk.get rfl) rfl (by assumption)) rfl ?_))) | ((with_reducible refine Knd.fieldAddr ?_); ((refine Exec.stab rfl (Stab.fieldZ rfl (tysOk.get rfl) rfl rfl (tysOk.get rfl) rfl) rfl ?_))) | ((with_reducible refine Knd.len ?_); ((refine Exec.stab rfl (Stab.len rfl (tysOk.get rfl) rfl) rfl ?_))) | ((with_reducible refine Knd.binOp ?_); (first | (refine Exec.stab rfl (Stab.subi rfl rfl (by omega)) rfl ?_) | (refine Exec.stab rfl (Stab.int rfl rfl rfl) rfl ?_) | (refine Exec.stab rfl (Stab.remp rfl rfl (by omega) (by omega)) rfl ?_))) | ((with_reducible refine Knd.pick ?_); ((refine Exec.stab rfl (Stab.pick_fd rfl (by first | (with_reducible assumption) | (with_reducible rfl) | (with_reducible exact (not_not_intro rfl)) | omega) rfl) rfl ?_))) | ((with_reducible refine Knd.store ?_); ((refine Exec.storeW rfl rfl (tysOk.get rfl) (by repeat (first | exact Upd.here | apply Upd.there)) rfl rfl (by repeat (first | exact AllOne.nil | refine AllOne.cons (by first | rfl | assumption) ?_)) ?_))) | ((with_reducible refine Knd.alloc ?_); (first | (refine Exec.alloc (tysOk.get rfl) rfl rfl (fun b => ?_)) | (refine Exec.alloc1 (tysOk.get rfl) rfl rfl rfl (fun b => ?_)))) | ((with_reducible refine Knd.extract ?_); (refine Exec.stab rfl (Stab.extract rfl rfl) rfl ?_)) | ((with_reducible refine Knd.indexAddr ?_); ((refine Exec.stab rfl (Stab.indexAddr rfl rfl (tysOk.get rfl) rfl (tysOk.get rfl) rfl (by omega) (by omega) (by first | rfl | assumption)) rfl ?_))) | ((with_reducible refine Knd.convert ?_); (first | (refine Exec.stab rfl (Stab.convu64 rfl (tysOk.get rfl) (tysOk.get rfl) rfl rfl (by omega)) rfl ?_) | (refine Exec.stab rfl (Stab.convi rfl (tysOk.get rfl) (tysOk.get rfl) rfl rfl (by omega)) rfl ?_) | (refine Exec.stab rfl (Stab.conv rfl (tysOk.get rfl) (tysOk.get rfl) rfl rfl) rfl ?_))))) | (with_reducible refine Tr.next ?_) | (with_reducible refine Tr.seq ?_) | (with_reducible refine Tr.region ?_) | (with_reducible refine Tr.nil ?_) | ((refine Tr.guard_y' rfl rfl rfl (by first | (with_reducible assumption) | (with_reducible rfl) | (with_reducible exact (not_not_intro rfl)) | omega) ?_); (first | ((with_reducible refine Knd.move ?_); (refine Exec.stab rfl (Stab.move rfl) rfl ?_)) | ((with_reducible refine Knd.load ?_); ((refine Exec.stab rfl (Stab.load rfl (tysOk.get rfl) rfl (by repeat (first | exact Has.here | apply Has.there)) rfl) rfl ?_))) | ((with_reducible refine Knd.fieldAddr ?_); ((refine Exec.stab rfl (Stab.fieldZ rfl (tysOk.get rfl) rfl rfl (tysOk.get rfl) rfl) rfl ?_))) | ((with_reducible refine Knd.len ?_); ((refine Exec.stab rfl (Stab.len rfl (tysOk.get rfl) rfl) rfl ?_))) | ((with_reducible refine Knd.binOp ?_); ((refine Exec.stab rfl (Stab.int rfl rfl rfl) rfl ?_))))) | (with_reducible refine Tr.skip ?_) | (refine Tr.cond_f rfl (by first | (with_reducible assumption) | (with_reducible rfl) | (with_reducible exact (not_not_intro rfl)) | omega) ?_))
  rw [hK]
  obtain ⟨s, hs⟩ : ∃ s, DA[K]? = some s := ⟨_, List.getElem?_eq_getElem (by omega)⟩
  have hs128 := x1 s (List.mem_of_getElem? hs)
  obtain ⟨_, _, _, _, ex, hs1, hs2⟩ := id hd2
  cases ex
  obtain ⟨hA7, ch, hat, A9, k9, rfl, hsb⟩ := hs1.elem hs
  repeat (first | ((with_reducible refine Tr.step rfl ?_); (first | ((with_reducible refine Knd.move ?_); (refine Exec.stab rfl (Stab.move rfl) rfl ?_)) | ((with_reducible refine Knd.load ?_); (first | (refine Exec.stab rfl (Stab.load rfl (tysOk.get rfl) rfl (by repeat (first | exact Has.here | apply Has.there)) rfl) rfl ?_) | (refine Exec.stab rfl (Stab.loadM rfl (tysOk.get rfl) rfl (by assumption)) rfl ?_))) | ((with_reducible refine Knd.fieldAddr ?_); ((refine Exec.stab rfl (Stab.fieldZ rfl (tysOk.get rfl) rfl rfl (tysOk.get rfl) rfl) rfl ?_))) | ((with_reducible refine Knd.pick ?_); ((refine Exec.stab rfl (Stab.pick_fd rfl (by first | (with_reducible assumption) | (with_reducible rfl) | (with_reducible exact (not_not_intro rfl)) | omega) rfl) rfl ?_))) | ((with_reducible refine Knd.indexAddr ?_); ((refine Exec.stab rfl (Stab.indexAddr rfl rfl (tysOk.get rfl) rfl (tysOk.get rfl) rfl (by omega) (by omega) (by first | rfl | assumption)) rfl ?_))) | ((with_reducible refine Knd.buildSlice ?_); ((refine Exec.buildSlice (tysOk.get rfl) rfl (tysOk.get rfl) rfl rfl rfl rfl rfl (by repeat (exact BuildP.nil)) rfl (fun b => ?_)))))) | (with_reducible refine Tr.next ?_) | (with_reducible refine Tr.seq ?_) | (with_reducible refine Tr.region ?_) | (with_reducible refine Tr.nil ?_) | ((refine Tr.guard_y' rfl rfl rfl (by first | (with_reducible assumption) | (with_reducible rfl) | (with_reducible exact (not_not_intro rfl)) | omega) ?_); (first | ((with_reducible refine Knd.load ?_); ((refine Exec.stab rfl (Stab.loadM rfl (tysOk.get rfl) rfl (by assumption)) rfl ?_))) | ((with_reducible refine Knd.len ?_); ((refine Exec.stab rfl (Stab.len rfl (tysOk.get rfl) rfl) rfl ?_))) | ((with_reducible refine Knd.binOp ?_); ((refine Exec.stab rfl (Stab.int rfl rfl rfl) rfl ?_))) | ((with_reducible refine Knd.indexAddr ?_); ((refine Exec.stab rfl (Stab.indexAddr rfl rfl (tysOk.get rfl) rfl (tysOk.get rfl) rfl (by omega) (by omega) (by first | rfl | assumption)) rfl ?_))))) | (with_reducible refine Tr.skip ?_) | (refine Tr.cond_f rfl (by first | (with_reducible assumption) | (with_reducible rfl) | (with_reducible exact (not_not_intro rfl)) | omega) ?_))
  refine Tr.box_own 1 0 (by repeat (first | exact Upd.here | apply Upd.there)) rfl (by intro u hu; cases hu) (by simp [maxLen]) ?_
  obtain ⟨p1, p2, p3, p4⟩ := hsb.cap
  ((refine Tr.step rfl ?_))
  refine Exec.append (news := byteV s) rfl rfl (tysOk.get rfl) rfl (tysOk.get rfl) rfl rfl rfl rfl (by repeat (first | exact Del.here | apply Del.there)) (Src.row p4) (by simp) (byteV_one s) (by omega) (by omega) rfl (fun A8 c8 hc8 => ?_)
  rw [zeros0_app, Nat.zero_add]
  refine Tr.own_some A8 (e := 5) (sz := 1) (m := s.length) (c := c8) (xs := byteV s) (by repeat (first | exact Has.here | apply Has.there)) (by omega) (fun hA8 => ?_)
  obtain ⟨x, hx, hv⟩ := bget (s := s) (j := (IntKind.u64.wrap at_ % 128).toNat) (by omega)
  repeat (first | ((with_reducible refine Tr.step rfl ?_); (first | ((with_reducible refine Knd.move ?_); (refine Exec.stab rfl (Stab.move rfl) rfl ?_)) | ((with_reducible refine Knd.assign ?_); (refine Exec.stab rfl (Stab.assign rfl) rfl ?_)) | ((with_reducible refine Knd.load ?_); (first | (refine Exec.stab rfl (Stab.loadW rfl (tysOk.get rfl) rfl (by repeat (first | exact Has.here | apply Has.there)) rfl) rfl ?_) | (refine Exec.stab rfl (Stab.loadO rfl (tysOk.get rfl) rfl (by repeat (first | exact Has.here | apply Has.there)) (by assumption)) rfl ?_))) | ((with_reducible refine Knd.binOp ?_); (first | (refine Exec.stab rfl (Stab.int rfl rfl rfl) rfl ?_) | (refine Exec.stab rfl (Stab.remp rfl rfl (by omega) (by omega)) rfl ?_))) | ((with_reducible refine Knd.store ?_); ((refine Exec.storeO rfl rfl (tysOk.get rfl) rfl (by first | rfl | assumption) (by repeat (first | exact Upd.here | apply Upd.there)) (by omega) ?_))) | ((with_reducible refine Knd.indexAddr ?_); ((refine Exec.stab rfl (Stab.indexAddr rfl rfl (tysOk.get rfl) rfl (tysOk.get rfl) rfl (by omega) (by omega) (by first | rfl | assumption)) rfl ?_))) | ((with_reducible refine Knd.convert ?_); ((refine Exec.stab rfl (Stab.conv rfl (tysOk.get rfl) (tysOk.get rfl) rfl rfl) rfl ?_))))) | (with_reducible refine Tr.next ?_) | (with_reducible refine Tr.seq ?_) | (with_reducible refine Tr.region ?_) | (with_reducible refine Tr.nil ?_))
  rw [b8_xor, byteV_set]
  refine Tr.publish (r := ownS 5 1 _ _ _ _) (by repeat (first | exact Del.here | apply Del.there)) (fun M7 hm7 hok => ?_)
  have hl2 : (s.set (IntKind.u64.wrap at_ % 128).toNat (x ^^^ by_)).length = s.length := List.length_set
  have hS : BSl M7 (.slice A8 (s.set (IntKind.u64.wrap at_ % 128).toNat (x ^^^ by_)).length c8) (s.set (IntKind.u64.wrap at_ % 128).toNat (x ^^^ by_)) := BSl.ofOwn hok hl2.symm hc8
  obtain ⟨m, d1, d2, d3, d4⟩ := hdm K _ s x (x ^^^ by_) hKl hs hx (xor_ne (fun e => hb0 (by rw [e]; rfl)))
  clear hok hv hdm hat
  generalize s.set (IntKind.u64.wrap at_ % 128).toNat (x ^^^ by_) = s2 at hl2 hS d4
  have hwr := fx_write1 M7 _ DA K A8 c8 s.length s2 (hd2.mono hm7) (by omega) (by omega) x1 (by omega) hS (by omega) hl2.symm
  repeat (fail)
  ((refine Tr.step rfl ?_)); refine Exec.call0 rfl (hwr) rfl ?_
  rintro _ M8 hm8 ⟨A10, c10, B10, k10, rfl, hd3⟩
  repeat (first | ((with_reducible refine Tr.step rfl ?_); (first | ((with_reducible refine Knd.move ?_); (refine Exec.stab rfl (Stab.move rfl) rfl ?_)) | ((with_reducible refine Knd.assign ?_); (refine Exec.stab rfl (Stab.assign rfl) rfl ?_)) | ((with_reducible refine Knd.load ?_); ((refine Exec.stab rfl (Stab.loadW rfl (tysOk.get rfl) rfl (by repeat (first | exact Has.here | apply Has.there)) rfl) rfl ?_))) | ((with_reducible refine Knd.store ?_); ((refine Exec.storeW rfl rfl (tysOk.get rfl) (by repeat (first | exact Upd.here | apply Upd.there)) rfl rfl (by repeat (first | exact AllOne.nil | refine AllOne.cons (by first | rfl | assumption) ?_)) ?_))) | ((with_reducible refine Knd.extract ?_); (refine Exec.stab rfl (Stab.extract rfl rfl) rfl ?_)))) | (with_reducible refine Tr.next ?_) | (with_reducible refine Tr.seq ?_) | (with_reducible refine Tr.region ?_) | (with_reducible refine Tr.nil ?_))
  ((refine Tr.step rfl ?_)); refine Exec.call0 rfl (fx_dsync1 M8 _ DA K s2 hd3 (by omega) (by omega) x1 (by omega) (by omega)) rfl ?_
  rintro _ M9 hm9 ⟨A11, c11, B11, k11, rfl, hd4⟩
  have l2 : (DA.set K s2).length = 40 := by rw [List.length_set, l1]
  have x2 : ∀ y ∈ DA.set K s2, y.length = 128 := fun y hy => (List.mem_or_eq_of_mem_set hy).elim (x1 y) (fun e => by rw [e]; omega)
  have o1 : openF (dk (DA.set K s2)) = (⟨40, ((T.take m).length : Int), T.take m⟩, 0) := by rw [openF_dk (by omega) (by omega) x2, d4, l2]; rfl
  repeat (first | ((with_reducible refine Tr.step rfl ?_); (first | ((with_reducible refine Knd.move ?_); (refine Exec.stab rfl (Stab.move rfl) rfl ?_)) | ((with_reducible refine Knd.assign ?_); (refine Exec.stab rfl (Stab.assign rfl) rfl ?_)) | ((with_reducible refine Knd.load ?_); ((refine Exec.stab rfl (Stab.loadW rfl (tysOk.get rfl) rfl (by repeat (first | exact Has.here | apply Has.there)) rfl) rfl ?_))) | ((with_reducible refine Knd.store ?_); ((refine Exec.storeW rfl rfl (tysOk.get rfl) (by repeat (first | exact Upd.here | apply Upd.there)) rfl rfl (by repeat (first | exact AllOne.nil | refine AllOne.cons (by first | rfl | assumption) ?_)) ?_))) | ((with_reducible refine Knd.extract ?_); (refine Exec.stab rfl (Stab.extract rfl rfl) rfl ?_)))) | (with_reducible refine Tr.next ?_) | (with_reducible refine Tr.seq ?_) | (with_reducible refine Tr.region ?_) | (with_reducible refine Tr.nil ?_))
  ((refine Tr.step rfl ?_)); refine Exec.call0 rfl (fx_open M9 _ _ 40 _ _ hd4 o1) rfl ?_
  rintro _ M10 hm10 ⟨A12, c12, rfl, hj3⟩
  have hm610 := hm7.trans (hm8.trans (hm9.trans hm10))
  have hE10 : Ints M10 _ _ := hE6.mono RI.mono hm610
  repeat (first | ((with_reducible refine Tr.step rfl ?_); (first | ((with_reducible refine Knd.move ?_); (refine Exec.stab rfl (Stab.move rfl) rfl ?_)) | ((with_reducible refine Knd.assign ?_); (refine Exec.stab rfl (Stab.assign rfl) rfl ?_)) | ((with_reducible refine Knd.store ?_); ((refine Exec.storeW rfl rfl (tysOk.get rfl) (by repeat (first | exact Upd.here | apply Upd.there)) rfl rfl (by repeat (first | exact AllOne.nil | refine AllOne.cons (by first | rfl | assumption) ?_)) ?_))) | ((with_reducible refine Knd.alloc ?_); (first | (refine Exec.alloc (tysOk.get rfl) rfl rfl (fun b => ?_)) | (refine Exec.alloc1 (tysOk.get rfl) rfl rfl rfl (fun b => ?_)))) | ((with_reducible refine Knd.extract ?_); (refine Exec.stab rfl (Stab.extract rfl rfl) rfl ?_)))) | (with_reducible refine Tr.next ?_) | (with_reducible refine Tr.seq ?_) | (with_reducible refine Tr.region ?_) | (with_reducible refine Tr.nil ?_) | (with_reducible refine Tr.block ?_))
  refine Tr.loop (α := Nat) (fun y => ⟨211, [(27, .int .i64 (y : Int)), (26, .int .i64 0), (25, .pointer (some ⟨b, 0, none⟩)), (24, .int .i64 0), (22, .int .i64 (K : Int)), (21, .int .i64 0), (13, .slice A5 T.length c5), (11, .pointer (some ⟨bl, 0, none⟩))], [], M10, box b 29 [.int .i64 40, .int .i64 ((T.take m).length : Int), .slice A12 (T.take m).length c12] :: _⟩) (fun y => y ≤ m) (fun y => m - y) 0 (Nat.zero_le _) (holds_sub (by repeat (first | exact SubFr.nil | refine SubFr.cons rfl ?_)) (by repeat (first | exact DropL.refl | apply DropL.skip))) (fun y hy => ?_)
  have hym : y < T.length := by omega
  obtain ⟨hA5', hval⟩ := hE10.at (endsL_get (l := T) (i := T.length) (j := y) hym)
  by_cases hyl : y < m
  · have hle2 := occs_le_le (l := T) (i := y + 1) (j := m) (by omega)
    repeat (first | ((with_reducible refine Tr.step rfl ?_); (first | ((with_reducible refine Knd.move ?_); (refine Exec.stab rfl (Stab.move rfl) rfl ?_)) | ((with_reducible refine Knd.assign ?_); (refine Exec.stab rfl (Stab.assign rfl) rfl ?_)) | ((with_reducible refine Knd.len ?_); ((refine Exec.stab rfl (Stab.len rfl (tysOk.get rfl) rfl) rfl ?_))) | ((with_reducible refine Knd.binOp ?_); (first | (refine Exec.stab rfl (Stab.addi rfl rfl (by omega)) rfl ?_) | (refine Exec.stab rfl (Stab.int rfl rfl rfl) rfl ?_))) | ((with_reducible refine Knd.pick ?_); ((refine Exec.stab rfl (Stab.pick_td rfl (by first | (with_reducible assumption) | (with_reducible rfl) | (with_reducible exact (not_not_intro rfl)) | omega) rfl) rfl ?_))))) | (with_reducible refine Tr.next ?_) | (with_reducible refine Tr.seq ?_) | (with_reducible refine Tr.region ?_) | (with_reducible refine Tr.nil ?_) | ((refine Tr.guard_y rfl rfl rfl (by first | (with_reducible assumption) | (with_reducible rfl) | (with_reducible exact (not_not_intro rfl)) | omega) ?_); (first | ((with_reducible refine Knd.move ?_); (refine Exec.stab rfl (Stab.move rfl) rfl ?_)) | ((with_reducible refine Knd.load ?_); ((refine Exec.stab rfl (Stab.loadM rfl (tysOk.get rfl) rfl (by assumption)) rfl ?_))) | ((with_reducible refine Knd.binOp ?_); ((refine Exec.stab rfl (Stab.int rfl rfl rfl) rfl ?_))) | ((with_reducible refine Knd.indexAddr ?_); ((refine Exec.stab rfl (Stab.indexAddr rfl rfl (tysOk.get rfl) rfl (tysOk.get rfl) rfl (by omega) (by omega) (by first | rfl | assumption)) rfl ?_))))) | (with_reducible refine Tr.skip ?_) | (with_reducible refine Tr.block ?_) | (with_reducible refine Tr.in_normal ?_) | (refine Tr.cond_t rfl (by first | (with_reducible assumption) | (with_reducible rfl) | (with_reducible exact (not_not_intro rfl)) | omega) ?_))
    exact Tr.again (y + 1) (by omega) (by omega) (holds_sub (by repeat (first | exact SubFr.nil | refine SubFr.cons rfl ?_)) (by repeat (first | exact DropL.refl | apply DropL.skip)))
  have hye : y = m := by omega
  subst hye
  obtain ⟨_, _, ex3, hr3⟩ := id hj3
  cases ex3
  obtain ⟨_, _, ex4, hr4⟩ := id hJ
  cases ex4
  have hc4 : T.length ≤ c4 ∧ c4 ≤ 9223372036854775807 := by
    obtain ⟨_, -, g1, g2, -⟩ := hr4.cells
    exact ⟨g1, g2⟩
  have hpre := (hr4.mono RSec.mono (hm5.trans (hm6.trans hm610))).pre (k := y) (m := c4) (by show y ≤ T.length; omega) (by omega) (Nat.le_refl _)
  have hty : (T.take y).length = y := by rw [List.length_take]; omega
  have hsame := sameR_fn M10 A12 A4 c12 c4 (T.take y) (T.take y) hr3 (by rw [hty]; exact hpre)
  rw [decide_eq_true rfl, hty] at hsame
  rw [hty]
  have hlast := hm14.trans (hm5.trans (hm6.trans hm610))
  repeat (first | ((with_reducible refine Tr.step rfl ?_); (first | ((with_reducible refine Knd.move ?_); (refine Exec.stab rfl (Stab.move rfl) rfl ?_)) | ((with_reducible refine Knd.len ?_); ((refine Exec.stab rfl (Stab.len rfl (tysOk.get rfl) rfl) rfl ?_))) | ((with_reducible refine Knd.binOp ?_); ((refine Exec.stab rfl (Stab.int rfl rfl rfl) rfl ?_))) | ((with_reducible refine Knd.pick ?_); ((refine Exec.stab rfl (Stab.pick_td rfl (by first | (with_reducible assumption) | (with_reducible rfl) | (with_reducible exact (not_not_intro rfl)) | omega) rfl) rfl ?_))))) | (with_reducible refine Tr.next ?_) | (with_reducible refine Tr.seq ?_) | (with_reducible refine Tr.region ?_) | (with_reducible refine Tr.nil ?_) | ((refine Tr.guard_y rfl rfl rfl (by first | (with_reducible assumption) | (with_reducible rfl) | (with_reducible exact (not_not_intro rfl)) | omega) ?_); (first | ((with_reducible refine Knd.move ?_); (refine Exec.stab rfl (Stab.move rfl) rfl ?_)) | ((with_reducible refine Knd.load ?_); ((refine Exec.stab rfl (Stab.loadM rfl (tysOk.get rfl) rfl (by assumption)) rfl ?_))) | ((with_reducible refine Knd.binOp ?_); ((refine Exec.stab rfl (Stab.int rfl rfl rfl) rfl ?_))) | ((with_reducible refine Knd.indexAddr ?_); ((refine Exec.stab rfl (Stab.indexAddr rfl rfl (tysOk.get rfl) rfl (tysOk.get rfl) rfl (by omega) (by omega) (by first | rfl | assumption)) rfl ?_))))) | (with_reducible refine Tr.exit ?_) | (with_reducible refine Tr.then_exit ?_) | ((with_reducible refine Tr.in_exit ?_ ?_); (exact rfl)) | (refine Tr.cond_f rfl (by first | (with_reducible assumption) | (with_reducible rfl) | (with_reducible exact (not_not_intro rfl)) | omega) ?_))
  (((apply Tr.draw); (kernel_rfl)); (refine TrA.take 0 (by kernel_rfl) rfl (by kernel_rfl) (by first | exact fun _ _ _ h => h | exact fun _ _ _ h => nomatch h.1) (by exact fun _ h => h) rfl (by first | exact Stab.move rfl) rfl rfl ?_); (refine TrA.take 1 (by kernel_rfl) rfl (by kernel_rfl) (by first | exact fun _ _ _ h => h | exact fun _ _ _ h => nomatch h.1) (by exact fun _ h => h) rfl (by exact Stab.int rfl rfl rfl) rfl rfl ?_); (refine TrA.take 2 (by kernel_rfl) rfl (by kernel_rfl) (by first | exact fun _ _ _ h => h | exact fun _ _ _ h => nomatch h.1) (by exact fun _ h => h) rfl (by first | exact Stab.move rfl) rfl rfl ?_); ((refine TrA.takeg 3 (by kernel_rfl) rfl (by kernel_rfl) (by first | exact fun _ _ _ h => h | exact fun _ _ _ h => nomatch h.1) (by exact fun _ h => h) rfl rfl rfl (decide_eq_true (by first | (with_reducible assumption) | (with_reducible rfl) | (with_reducible exact (not_not_intro rfl)) | omega)) (by first | exact Stab.move rfl) rfl rfl ?_)); ((refine TrA.takeg 4 (by kernel_rfl) rfl (by kernel_rfl) (by first | exact fun _ _ _ h => h | exact fun _ _ _ h => nomatch h.1) (by exact fun _ h => h) rfl rfl rfl (decide_eq_true (by first | (with_reducible assumption) | (with_reducible rfl) | (with_reducible exact (not_not_intro rfl)) | omega)) (by exact Stab.int rfl rfl rfl) rfl rfl ?_)); (refine TrA.take 5 (by kernel_rfl) rfl (by kernel_rfl) (by first | exact fun _ _ _ h => h | exact fun _ _ _ h => nomatch h.1) (by exact fun _ h => h) rfl (by exact Stab.pick_td rfl (by first | (with_reducible assumption) | (with_reducible rfl) | (with_reducible exact (not_not_intro rfl)) | omega) rfl) rfl rfl ?_); (refine TrA.take 6 (by kernel_rfl) rfl (by kernel_rfl) (by first | exact fun _ _ _ h => h | exact fun _ _ _ h => nomatch h.1) (by exact fun _ h => h) rfl (by first | exact Stab.move rfl) rfl rfl ?_); ((refine TrA.takeg 7 (by kernel_rfl) rfl (by kernel_rfl) (by first | exact fun _ _ _ h => h | exact fun _ _ _ h => nomatch h.1) (by exact fun _ h => h) rfl rfl rfl (decide_eq_true (by first | (with_reducible assumption) | (with_reducible rfl) | (with_reducible exact (not_not_intro rfl)) | omega)) (by first | exact Stab.move rfl) rfl rfl ?_)); ((refine TrA.takeg 8 (by kernel_rfl) rfl (by kernel_rfl) (by first | exact fun _ _ _ h => h | exact fun _ _ _ h => nomatch h.1) (by exact fun _ h => h) rfl rfl rfl (decide_eq_true (by first | (with_reducible assumption) | (with_reducible rfl) | (with_reducible exact (not_not_intro rfl)) | omega)) (by exact Stab.int rfl rfl rfl) rfl rfl ?_)); (refine TrA.take 9 (by kernel_rfl) rfl (by kernel_rfl) (by first | exact fun _ _ _ h => h | exact fun _ _ _ h => nomatch h.1) (by exact fun _ h => h) rfl (by exact Stab.pick_td rfl (by first | (with_reducible assumption) | (with_reducible rfl) | (with_reducible exact (not_not_intro rfl)) | omega) rfl) rfl rfl ?_); (refine TrA.take 10 (by kernel_rfl) rfl (by kernel_rfl) (by first | exact fun _ _ _ h => h | exact fun _ _ _ h => nomatch h.1) (by exact fun _ h => h) rfl (by first | exact Stab.move rfl) rfl rfl ?_); ((refine TrA.takeg 11 (by kernel_rfl) rfl (by kernel_rfl) (by first | exact fun _ _ _ h => h | exact fun _ _ _ h => nomatch h.1) (by exact fun _ h => h) rfl rfl rfl (decide_eq_true (by first | (with_reducible assumption) | (with_reducible rfl) | (with_reducible exact (not_not_intro rfl)) | omega)) (by exact Stab.fieldZ rfl (tysOk.get rfl) rfl rfl (tysOk.get rfl) rfl) rfl rfl ?_)); ((refine TrA.takeg 13 (by kernel_rfl) rfl (by kernel_rfl) (by first | exact fun _ _ _ h => h | exact fun _ _ _ h => nomatch h.1) (by exact fun _ h => h) rfl rfl rfl (decide_eq_true (by first | (with_reducible assumption) | (with_reducible rfl) | (with_reducible exact (not_not_intro rfl)) | omega)) (by exact Stab.fieldZ rfl (tysOk.get rfl) rfl rfl (tysOk.get rfl) rfl) rfl rfl ?_)); ((refine TrA.takeg 15 (by kernel_rfl) rfl (by kernel_rfl) (by first | exact fun _ _ _ h => h | exact fun _ _ _ h => nomatch h.1) (by exact fun _ h => h) rfl rfl rfl (decide_eq_true (by first | (with_reducible assumption) | (with_reducible rfl) | (with_reducible exact (not_not_intro rfl)) | omega)) (by first | exact Stab.move rfl) rfl rfl ?_)); ((refine TrA.takeg 12 (by kernel_rfl) rfl (by kernel_rfl) (by first | exact fun _ _ _ h => h | exact fun _ _ _ h => nomatch h.1) (by exact fun _ h => h) rfl rfl rfl (decide_eq_true (by first | (with_reducible assumption) | (with_reducible rfl) | (with_reducible exact (not_not_intro rfl)) | omega)) (by exact Stab.load rfl (tysOk.get rfl) rfl (by repeat (first | exact Has.here | apply Has.there)) rfl) rfl rfl ?_)); ((refine TrA.takeg 14 (by kernel_rfl) rfl (by kernel_rfl) (by first | exact fun _ _ _ h => h | exact fun _ _ _ h => nomatch h.1) (by exact fun _ h => h) rfl rfl rfl (decide_eq_true (by first | (with_reducible assumption) | (with_reducible rfl) | (with_reducible exact (not_not_intro rfl)) | omega)) (by exact Stab.load rfl (tysOk.get rfl) rfl (by repeat (first | exact Has.here | apply Has.there)) rfl) rfl rfl ?_)); ((refine TrA.takeg 16 (by kernel_rfl) rfl (by kernel_rfl) (by first | exact fun _ _ _ h => h | exact fun _ _ _ h => nomatch h.1) (by exact fun _ h => h) rfl rfl rfl (decide_eq_true (by first | (with_reducible assumption) | (with_reducible rfl) | (with_reducible exact (not_not_intro rfl)) | omega)) (by exact Stab.slice_h rfl rfl (tysOk.get rfl) rfl (tysOk.get rfl) (by omega) (by omega)) rfl rfl ?_)); (refine TrA.eff 17 rfl (by kernel_rfl) (by first | exact .inl rfl | exact .inr ⟨_, _, _, rfl, rfl, rfl⟩) ?_))
  refine Exec.call0 rfl hsame rfl ?_
  rintro _ _ _ ⟨rfl, rfl⟩
  refine ⟨Mem.le.refl _, (by exact fun _ h => h), ?_⟩
  ((refine TrA.take 18 (by kernel_rfl) rfl (by kernel_rfl) (by first | exact fun _ _ _ h => h | exact fun _ _ _ h => nomatch h.1) (by exact fun _ h => h) rfl (by exact Stab.pick_td rfl (by first | (with_reducible assumption) | (with_reducible rfl) | (with_reducible exact (not_not_intro rfl)) | omega) rfl) rfl rfl ?_); (refine TrA.take 19 (by kernel_rfl) rfl (by kernel_rfl) (by first | exact fun _ _ _ h => h | exact fun _ _ _ h => nomatch h.1) (by exact fun _ h => h) rfl (by first | exact Stab.assign rfl) rfl rfl ?_); (refine TrA.done (by kernel_rfl) ?_))
  repeat (first | (with_reducible refine Tr.next ?_) | (with_reducible refine Tr.ret ?_))
  (refine Tr.done (by first | exact .inl rfl | exact .inr rfl) rfl (by repeat (first | exact RVs.nil | (apply RVs.cons; (exact RV.tmp rfl)))) (by first | exact Mem.le.refl _ | assumption) (by exact ⟨[_, _, _, _, _], rfl⟩) ⟨rfl, ?_⟩)
  rfl
end Go.Proofs.Ytkbggengagockaa
/-
  The journal: how the arguments of the laws read, where what they read is bounded.
  Conditions: none.
-/
namespace Go.Proofs.Ytkbggengagockaa
open Go Bf
open Go.ChangeShapes Go.WideShapes Go.ChangeAt Go.RowKit
section
variable {H : Type}
theorem bulk_one (d : DataW H) : 1 ≤ Rows.uptoBulk d := by
  cases d with
  | lit l => cases l <;> simp [Rows.uptoBulk]
  | nil => simp [Rows.uptoBulk]
  | ptr d => simp [Rows.uptoBulk]
  | slice elems spare => simp [Rows.uptoBulk]
  | agg parts => simp [Rows.uptoBulk]
  | iface t d => simp [Rows.uptoBulk]
  | map entries => simp [Rows.uptoBulk]
  | held h => simp [Rows.uptoBulk]
theorem bulk_part {d : DataW H} : ∀ {l : List (DataW H)}, d ∈ l → Rows.uptoBulk d ≤ Rows.uptoBulkAll l
  | x :: r, h => by
    simp only [Rows.uptoBulkAll]
    rcases List.mem_cons.1 h with e | e
    · subst e; omega
    · have := bulk_part e; omega
theorem bulk_len : ∀ (l : List (DataW H)), l.length ≤ Rows.uptoBulkAll l
  | [] => Nat.zero_le _
  | x :: r => by
    have h1 := bulk_one x
    have h2 := bulk_len r
    simp only [Rows.uptoBulkAll, List.length_cons]; omega
theorem bulk_sum {α : Type} (m : α → Nat) : ∀ (xs : List α) (es : List (DataW H)), es.length = xs.length → (∀ (i : Nat) z d, xs[i]? = some z → es[i]? = some d → m z ≤ Rows.uptoBulk d) → (xs.map m).sum ≤ Rows.uptoBulkAll es
  | [], _, _, _ => Nat.zero_le _
  | x :: xs, [], h, _ => by cases h
  | x :: xs, e :: es, h, hm => by
    have h0 := hm 0 x e rfl rfl
    have ih := bulk_sum m xs es (by simpa using h) fun i z d hz hd => hm (i + 1) z d (by simpa using hz) (by simpa using hd)
    simp only [List.map_cons, List.sum_cons, Rows.uptoBulkAll]
    omega
theorem small_le {ds : List (DataW H)} (h : Rows.uptoSmall H ds = true) {j : Nat} {d : DataW H} (hd : ds[j]? = some d) : Rows.uptoBulk d ≤ 1048576 := by
  have h1 : Rows.uptoBulkAll ds ≤ 1048576 := of_decide_eq_true h
  have h2 := bulk_part (List.mem_of_getElem? hd)
  omega
end
theorem ownT' : ownKnob Try.prog.godebug = none := by kernel_rfl
theorem laidT' : laidOutB Try.prog = true := by kernel_rfl
theorem u3 : Try.prog.underlying 3 = some (.int .i64) := (tysOk.get (t := 3) rfl).1
theorem u5 : Try.prog.underlying 5 = some (.int .u8) := (tysOk.get (t := 5) rfl).1
theorem u22 : Try.prog.underlying 22 = some (.slice 35) := (tysOk.get (t := 22) rfl).1
theorem u35 : Try.prog.underlying 35 = some (.slice 5) := (tysOk.get (t := 35) rfl).1
theorem c3 : Try.prog.cellsOf 3 = 1 := by kernel_rfl
theorem c5 : Try.prog.cellsOf 5 = 1 := by kernel_rfl
theorem c22 : Try.prog.cellsOf 22 = 1 := by kernel_rfl
theorem c29 : Try.prog.cellsOf 29 = 3 := by kernel_rfl
theorem c35 : Try.prog.cellsOf 35 = 1 := by kernel_rfl
theorem len1 {l : List Value} (h : l.length = 1) : ∃ a, l = [a] := by
  match l, h with
  | [a], _ => exact ⟨a, rfl⟩
theorem len2 {l : List Value} (h : l.length = 2) : ∃ a b, l = [a, b] := by
  match l, h with
  | [a, b], _ => exact ⟨a, b, rfl⟩
theorem len3 {l : List Value} (h : l.length = 3) : ∃ a b c, l = [a, b, c] := by
  match l, h with
  | [a, b, c], _ => exact ⟨a, b, c, rfl⟩
theorem len4 {l : List Value} (h : l.length = 4) : ∃ a b c d, l = [a, b, c, d] := by
  match l, h with
  | [a, b, c, d], _ => exact ⟨a, b, c, d, rfl⟩
section
variable {H : Type} {enc : TypeId × Value → H} {W : World} {base : Nat} {v : Value} {w : World} {sp : Nat → Bool} {held : Bool}
theorem open_recs {fuel : Nat} {v : Value} {x : DataW H × List MemPlace} (h : DataW.trod enc Try.prog w 0 sp held fuel 22 [v] = some x) : ∃ (l : List (List UInt8)) (A : Option Addr) (c : Nat), v = .slice A l.length c ∧ SlOf 1 RSec (Bf.hp w) (.slice A l.length c) l ∧ tot l ≤ Rows.uptoBulk x.1 := by
  obtain ⟨l, A, c, rfl, hs, he⟩ := read_slOfD (R := RSec) (fun b => 1 + b.length) Rows.uptoBulk u22 c35 (by omega) (fun f cs y _ hl hy => by
    obtain ⟨u, rfl⟩ := len1 hl
    obtain ⟨bs, A, c, rfl, hb, hbs⟩ := read_bytesD u35 u5 c5 hy
    refine ⟨by intro u hu; simp at hu; subst hu; rfl, bs, ⟨A, c, rfl, hb⟩, ?_⟩
    rcases hbs with rfl | ⟨es, spare, e1, e2⟩
    · exact bulk_one _
    · rw [e1, Rows.uptoBulk]
      have := bulk_len es
      omega) h
  refine ⟨l, A, c, rfl, hs, ?_⟩
  rcases he with rfl | ⟨es, spare, e1, e2, e3⟩
  · exact Nat.zero_le _
  · rw [e1, Rows.uptoBulk]
    have := bulk_sum (fun b : List UInt8 => 1 + b.length) l es e2 e3
    show (l.map fun b => 1 + b.length).sum ≤ _
    omega
theorem open_jr {cs : List Value} {fuel : Nat} {x : DataW H × List MemPlace} (h : DataW.trod enc Try.prog w 0 sp held fuel 29 cs = some x) : ∃ j : Jr, RJr (Bf.hp w) (.agg cs.toArray) j ∧ tot j.rcs ≤ Rows.uptoBulk x.1 := by
  obtain ⟨hl, f, parts, -, hx, hf⟩ := read_structD Try.underlying29 h
  rw [c29] at hl
  obtain ⟨a, b, c, rfl⟩ := len3 hl
  obtain ⟨y0, -, h0⟩ : ∃ y, parts[0]? = some y.1 ∧ DataW.trod enc Try.prog w 0 sp held f 3 (([a, b, c].drop 0).take (Try.prog.cellsOf 3)) = some y := hf 0 _ rfl
  rw [c3] at h0
  obtain ⟨y1, -, h1⟩ : ∃ y, parts[1]? = some y.1 ∧ DataW.trod enc Try.prog w 0 sp held f 3 (([a, b, c].drop 1).take (Try.prog.cellsOf 3)) = some y := hf 1 _ rfl
  rw [c3] at h1
  obtain ⟨y2, p2, h2⟩ : ∃ y, parts[2]? = some y.1 ∧ DataW.trod enc Try.prog w 0 sp held f 22 (([a, b, c].drop 2).take (Try.prog.cellsOf 22)) = some y := hf 2 _ rfl
  rw [c22] at h2
  obtain ⟨n, e0, -⟩ := read_int u3 h0
  obtain ⟨m, e1, -⟩ := read_int u3 h1
  cases e0
  cases e1
  obtain ⟨l, A, k, rfl, hs, ht⟩ := open_recs h2
  refine ⟨⟨n, m, l⟩, ⟨A, k, rfl, hs⟩, ?_⟩
  have := bulk_part (List.mem_of_getElem? p2)
  rw [hx, Rows.uptoBulk]
  show tot l ≤ _
  omega
theorem arg_jr {d : DataW H} (h : ArgD enc Try.prog W base 29 v d) : ∃ j : Jr, RJr (Bf.hp W) v j ∧ tot j.rcs ≤ Rows.uptoBulk d := by
  obtain ⟨k0, f0, p, g0⟩ := h
  unfold Value.okWide at k0
  rw [Try.underlying29] at k0
  obtain ⟨cs, rfl, -, -⟩ := k0
  obtain ⟨j, hj, ht⟩ := open_jr g0
  exact ⟨j, by simpa [Value.cells] using hj, ht⟩
theorem arg_bytes {d : DataW H} (h : ArgD enc Try.prog W base 35 v d) : ∃ (bs : List UInt8) (A : Option Addr) (c : Nat), v = .slice A bs.length c ∧ BSl (Bf.hp W) (.slice A bs.length c) bs := by
  obtain ⟨k0, f0, p, g0⟩ := h
  obtain ⟨A, len, cap, rfl⟩ := okWide_slice u35 k0
  obtain ⟨bs, A', c', e, hb, -⟩ := read_bytesD u35 u5 c5 (by simpa [Value.cells] using g0)
  exact ⟨bs, A', c', e, hb⟩
end
end Go.Proofs.Ytkbggengagockaa
/-
  The journal: how a list of records as an argument reads.
  Conditions: none.
-/
namespace Go.Proofs.Ytkbggengagockaa
open Go Bf
open Go.ChangeShapes Go.WideShapes Go.ChangeAt Go.RowKit
section
variable {H : Type} {enc : TypeId × Value → H} {W : World} {base : Nat} {v : Value}
theorem arg_recs {d : DataW H} (h : ArgD enc Try.prog W base 22 v d) : ∃ (l : List (List UInt8)) (A : Option Addr) (c : Nat), v = .slice A l.length c ∧ SlOf 1 RSec (Bf.hp W) (.slice A l.length c) l ∧ tot l ≤ Rows.uptoBulk d := by
  obtain ⟨k0, f0, p, g0⟩ := h
  obtain ⟨A, len, cap, rfl⟩ := okWide_slice u22 k0
  obtain ⟨l, A', c', e, hs, ht⟩ := open_recs (by simpa [Value.cells] using g0)
  exact ⟨l, A', c', e, hs, ht⟩
theorem small_two {ds : List (DataW H)} (h : Rows.uptoSmall H ds = true) {a b : DataW H} (ha : ds[0]? = some a) (hb : ds[1]? = some b) : Rows.uptoBulk a + Rows.uptoBulk b ≤ 1048576 := by
  have h1 : Rows.uptoBulkAll ds ≤ 1048576 := of_decide_eq_true h
  match ds, ha, hb with
  | x :: y :: r, ha, hb =>
    cases ha
    cases hb
    simp only [Rows.uptoBulkAll] at h1
    omega
end
end Go.Proofs.Ytkbggengagockaa
/-
  The journal: how numbers as arguments read.
  Conditions: none.
-/
namespace Go.Proofs.Ytkbggengagockaa
open Go Bf
open Go.ChangeShapes Go.WideShapes Go.ChangeAt Go.RowKit
section
variable {H : Type} {enc : TypeId × Value → H} {W : World} {base : Nat} {v : Value}
theorem read_u8 {fuel : Nat} {c : Value} {y : DataW H × List MemPlace} {sp : Nat → Bool} {held : Bool} {w : World} (g0 : DataW.trod enc Try.prog w 0 sp held fuel 5 [c] = some y) : ∃ a : UInt8, c = .int .u8 (a.toNat : Int) := by
  obtain ⟨m, e, hw⟩ := read_int u5 g0
  cases e
  have hmin : IntKind.u8.min = 0 := by decide
  have hmax : IntKind.u8.max = 255 := by decide
  have : 0 ≤ m ∧ m ≤ 255 := by simpa [Lit.wf, hmin, hmax] using hw
  refine ⟨UInt8.ofNat m.toNat, ?_⟩
  have e : ((UInt8.ofNat m.toNat).toNat : Int) = m := by
    simp [UInt8.toNat_ofNat']
    omega
  rw [e]
theorem argd_int {d : DataW H} (h : ArgD enc Try.prog W base 3 v d) : ∃ n : Int, v = .int .i64 n := by
  obtain ⟨k0, f0, p, g0⟩ := h
  obtain ⟨n, rfl⟩ := okWide_int u3 k0
  exact ⟨n, rfl⟩
theorem argd_u8 {d : DataW H} (h : ArgD enc Try.prog W base 5 v d) : ∃ a : UInt8, v = .int .u8 (a.toNat : Int) := by
  obtain ⟨k0, f0, p, g0⟩ := h
  obtain ⟨n, rfl⟩ := okWide_int u5 k0
  exact read_u8 (by simpa [Value.cells] using g0)
end
end Go.Proofs.Ytkbggengagockaa
/-
  The journal: the row of JournalDamage.
  Conditions: what is read is of bulk at most 1048576 (the second form).
-/
namespace Go.Proofs.Ytkbggengagockaa
open Go Bf
open Go.ChangeShapes Go.WideShapes Go.ChangeAt Go.RowKit
set_option maxRecDepth 100000 in
theorem damage_lifted (os : Os) (started : os.Started) (H : Type) (enc : TypeId × Value → H) (F : Stop.Interp) :
    ReturnsInHanded {} Try.checked os 7 .any ((Rows.OpenSpec.upto Rows.journalDamageSpec).pre6 enc Try.prog Try.f7 Rows.journalDamageUptoRow.domain false) (((Rows.OpenSpec.upto Rows.journalDamageSpec).at F).post enc Try.prog Try.f7 false true false false) :=
  lift_cond (C := Try.checked) (s := Rows.journalDamageSpec) (so := Rows.OpenSpec.upto Rows.journalDamageSpec) (kc := Rows.uptoSmall) (ts := [22, 3, 3, 5]) (tb := 4) started rfl rfl rfl ownT' (by kernel_rfl) Try.func7
    (OpenSpec.witness (enc := enc) (C := Try.checked) (s := Rows.OpenSpec.upto Rows.journalDamageSpec) (k := Rows.uptoSmall) rfl false ⟨#[], #[.slice none 0 0, .int .i64 0, .int .i64 0, .int .u8 0], []⟩ 8 (by kernel_rfl) (by kernel_rfl) (by kernel_rfl)
      (x := ([.nil, .lit (.int .i64 0), .lit (.int .i64 0), .lit (.int .u8 0)], [], [])) (by kernel_rfl) rfl (by kernel_rfl))
    (by rw [Try.params7]) laidT' (by kernel_rfl) rfl (fun ds h => match ds, h with | [_, _, _, _], _ => rfl) rfl Try.underlying4
    (fun W base vs ds hl hk ha => by
      obtain ⟨v0, v1, v2, v3, rfl⟩ := len4 hl
      obtain ⟨aD, a1, a2⟩ := ha 0 22 v0 rfl rfl
      obtain ⟨a, aA, ac, rfl, hra, ta⟩ := arg_recs a2
      have hsm := small_le hk a1
      obtain ⟨d1, e1, g1⟩ := ha 1 3 v1 rfl rfl
      obtain ⟨n1, rfl⟩ := argd_int g1
      obtain ⟨d2, e2, g2⟩ := ha 2 3 v2 rfl rfl
      obtain ⟨n2, rfl⟩ := argd_int g2
      obtain ⟨d3, e3, g3⟩ := ha 3 5 v3 rfl rfl
      obtain ⟨n3, rfl⟩ := argd_u8 g3
      exact damage_fn _ aA ac a n1 n2 n3 hra (by omega))
theorem journalDamage_holds : Rows.JournalDamageUptoSaid :=
  OpenClaim.holds_of_cond 7 Try.f7 rfl rfl rfl rfl rfl rfl rfl ⟨rfl, rfl, rfl, rfl, rfl⟩ rfl rfl rfl rfl rfl (by kernel_rfl) Try.func7 (by kernel_rfl)
    (of_decide_eq_true (by kernel_rfl)) (by unfold Func.isWrapper; first | (rw [if_pos (by decide +kernel)]; kernel_rfl) | (rw [if_neg (by decide +kernel)]; exact ⟨rfl, rfl⟩))
    (fun os started H enc _ F => damage_lifted os started H enc F)
end Go.Proofs.Ytkbggengagockaa
