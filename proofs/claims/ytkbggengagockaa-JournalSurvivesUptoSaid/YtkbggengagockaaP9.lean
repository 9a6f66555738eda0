/-
  The journal: the row of JournalSurvives.
  Conditions: none.
-/
import Derived.Test.YtkbggengagockaaBfPan
import Derived.Test.YtkbggengagockaaBfRowU
import Derived.Test.YtkbggengagockaaRows
import Derived.ProofKit
import Derived.Test.YtkbggengagockaaP9c
/-
  The journal: the law JournalSurvives walked.
  Conditions: the records are not too many.
-/
namespace Go.Proofs.Ytkbggengagockaa
open Go Bf
attribute [local irreducible] Tr Exec Stab HasTy Go.Addr.add IntKind.wrap
structure SvSt where
  i : Nat
  M : Mem
  D : List (List UInt8)
  n : Nat
  A : Option Addr
  c : Nat
  B : Option Addr
  k : Nat
  P : Option Addr
  q : Nat
set_option maxHeartbeats 16000000 in
theorem survives_fn (M : Mem) (n0 : UInt8) (A0 : Option Addr) (c0 : Nat) (script : List Crs) (h : SlOf 3 RCrs M (.slice A0 script.length c0) script) (ht : ∀ x ∈ script, tot x.rcs ≤ 1048576) :
    Fn0 Try.prog 9 [.int .u8 (n0.toNat : Int), .slice A0 script.length c0] M (fun r _ => r = .bool true) := by
  have hl := h.len_le
  have hn0 := n0.toNat_lt
  refine Fn.intro Try.func9 rfl rfl Try.ntmps9 rfl fun E F => ?_
  repeat (first | ((with_reducible refine Tr.step rfl ?_); (((with_reducible refine Knd.assign ?_); (refine Exec.stab rfl (Stab.assign rfl) rfl ?_)))) | (with_reducible refine Tr.next ?_) | (with_reducible refine Tr.seq ?_) | (with_reducible refine Tr.region ?_) | (with_reducible refine Tr.nil ?_))
  ((refine Tr.step rfl ?_)); refine Exec.call0 rfl (sane_jfn M) rfl ?_
  rintro _ M1 hm1 rfl
  by_cases h8 : 8 < script.length
  · repeat (first | ((with_reducible refine Tr.step rfl ?_); (first | ((with_reducible refine Knd.move ?_); (refine Exec.stab rfl (Stab.move rfl) rfl ?_)) | ((with_reducible refine Knd.assign ?_); (refine Exec.stab rfl (Stab.assign rfl) rfl ?_)) | ((with_reducible refine Knd.len ?_); ((refine Exec.stab rfl (Stab.len rfl (tysOk.get rfl) rfl) rfl ?_))) | ((with_reducible refine Knd.binOp ?_); ((refine Exec.stab rfl (Stab.int rfl rfl rfl) rfl ?_))) | ((with_reducible refine Knd.unOp ?_); ((refine Exec.stab rfl (Stab.not rfl) rfl ?_))))) | (with_reducible refine Tr.next ?_) | (with_reducible refine Tr.seq ?_) | (with_reducible refine Tr.region ?_) | (with_reducible refine Tr.nil ?_) | (with_reducible refine Tr.skip ?_) | (with_reducible refine Tr.ret ?_) | (with_reducible refine Tr.then_ret ?_) | (refine Tr.cond_bf rfl (by first | (with_reducible rfl) | (with_reducible assumption) | (with_reducible exact Bool.not_true) | (with_reducible exact Bool.not_false)) ?_) | (refine Tr.cond_t rfl (by first | (with_reducible assumption) | (with_reducible rfl) | (with_reducible exact (not_not_intro rfl)) | omega) ?_))
    (refine Tr.done (by first | exact .inl rfl | exact .inr rfl) rfl (by repeat (first | exact RVs.nil | (apply RVs.cons; (exact RV.tmp rfl)))) (by first | exact Mem.le.refl _ | assumption) (by exact ⟨[], rfl⟩) ⟨rfl, ?_⟩)
    rfl
  have eN : (n0.toNat : Int) % 30 + 1 = ((n0.toNat % 30 + 1 : Nat) : Int) := by omega
  have hN : n0.toNat % 30 + 1 ≤ 30 := by omega
  have hN1 : 1 ≤ n0.toNat % 30 + 1 := by omega
  have hz := recs_new (n0.toNat % 30 + 1)
  have hzg := gmax_new (n0.toNat % 30 + 1)
  have hz128 := new_128 (n0.toNat % 30 + 1)
  have hzl : (List.replicate (n0.toNat % 30 + 1) zsec).length = n0.toNat % 30 + 1 := List.length_replicate
  have hnew := fun M => fx_new M (n0.toNat % 30 + 1) hN1 (by omega)
  generalize n0.toNat % 30 + 1 = N at eN hN hN1 hz hzg hz128 hzl hnew
  repeat (first | ((with_reducible refine Tr.step rfl ?_); (first | ((with_reducible refine Knd.move ?_); (refine Exec.stab rfl (Stab.move rfl) rfl ?_)) | ((with_reducible refine Knd.len ?_); ((refine Exec.stab rfl (Stab.len rfl (tysOk.get rfl) rfl) rfl ?_))) | ((with_reducible refine Knd.binOp ?_); (first | (refine Exec.stab rfl (Stab.addi rfl rfl (by omega)) rfl ?_) | (refine Exec.stab rfl (Stab.int rfl rfl rfl) rfl ?_) | (refine Exec.stab rfl (Stab.remp rfl rfl (by omega) (by omega)) rfl ?_))) | ((with_reducible refine Knd.unOp ?_); ((refine Exec.stab rfl (Stab.not rfl) rfl ?_))) | ((with_reducible refine Knd.convert ?_); ((refine Exec.stab rfl (Stab.convi rfl (tysOk.get rfl) (tysOk.get rfl) rfl rfl (by omega)) rfl ?_))))) | (with_reducible refine Tr.next ?_) | (with_reducible refine Tr.seq ?_) | (with_reducible refine Tr.region ?_) | (with_reducible refine Tr.nil ?_) | (with_reducible refine Tr.skip ?_) | (refine Tr.cond_bf rfl (by first | (with_reducible rfl) | (with_reducible assumption) | (with_reducible exact Bool.not_true) | (with_reducible exact Bool.not_false)) ?_) | (refine Tr.cond_f rfl (by first | (with_reducible assumption) | (with_reducible rfl) | (with_reducible exact (not_not_intro rfl)) | omega) ?_))
  rw [eN]
  ((refine Tr.step rfl ?_)); refine Exec.call0 rfl (hnew M1) rfl ?_
  rintro _ M2 hm2 ⟨Ad, cd, Bd, kd, rfl, hd⟩
  have hm12 := hm1.trans hm2
  generalize List.replicate N zsec = D0 at hz hzg hz128 hzl hd
  repeat (first | ((with_reducible refine Tr.step rfl ?_); (first | ((with_reducible refine Knd.move ?_); (refine Exec.stab rfl (Stab.move rfl) rfl ?_)) | ((with_reducible refine Knd.assign ?_); (refine Exec.stab rfl (Stab.assign rfl) rfl ?_)) | ((with_reducible refine Knd.len ?_); ((refine Exec.stab rfl (Stab.len rfl (tysOk.get rfl) rfl) rfl ?_))) | ((with_reducible refine Knd.binOp ?_); ((refine Exec.stab rfl (Stab.int rfl rfl rfl) rfl ?_))) | ((with_reducible refine Knd.store ?_); ((refine Exec.storeW rfl rfl (tysOk.get rfl) (by repeat (first | exact Upd.here | apply Upd.there)) rfl rfl (by repeat (first | exact AllOne.nil | refine AllOne.cons (by first | rfl | assumption) ?_)) ?_))) | ((with_reducible refine Knd.alloc ?_); (first | (refine Exec.alloc (tysOk.get rfl) rfl rfl (fun b => ?_)) | (refine Exec.alloc1 (tysOk.get rfl) rfl rfl rfl (fun b => ?_)))) | ((with_reducible refine Knd.extract ?_); (refine Exec.stab rfl (Stab.extract rfl rfl) rfl ?_)))) | (with_reducible refine Tr.next ?_) | (with_reducible refine Tr.seq ?_) | (with_reducible refine Tr.region ?_) | (with_reducible refine Tr.nil ?_) | (with_reducible refine Tr.skip ?_) | (with_reducible refine Tr.block ?_) | (refine Tr.cond_f rfl (by first | (with_reducible assumption) | (with_reducible rfl) | (with_reducible exact (not_not_intro rfl)) | omega) ?_))
  generalize b = bd
  refine Tr.loop (α := SvSt) (fun y => ⟨195, [(40, .int .i64 (y.i : Int)), (39, .int .i64 script.length), (38, .slice A0 script.length c0), (7, .slice y.P y.n y.q), (5, .pointer (some ⟨bd, 0, none⟩))], [], y.M, box bd 25 [.slice y.A N y.c, .slice y.B 0 y.k, .int .i64 (-1), .bool false] :: ([] ++ F)⟩)
    (fun y => y.i ≤ script.length ∧ Mem.le M2 y.M ∧ y.D.length = N ∧ (∀ s ∈ y.D, s.length = 128) ∧ gmax y.D ≤ y.i ∧ y.n = (recs y.D).length ∧ RDisk y.M (.agg #[.slice y.A N y.c, .slice y.B 0 y.k, .int .i64 (-1), .bool false]) (dk y.D) ∧ SlOf 1 RSec y.M (.slice y.P y.n y.q) (recs y.D)) (fun y => script.length - y.i)
    ⟨0, M2, D0, 0, Ad, cd, Bd, kd, none, 0⟩ ⟨Nat.zero_le _, Mem.le.refl _, hzl, hz128, by show gmax D0 ≤ 0; omega, by show 0 = (recs D0).length; rw [hz]; rfl, hd, by show SlOf 1 RSec M2 (.slice none 0 0) (recs D0); rw [hz]; exact SlOf.nil _ _ _⟩ (holds_sub (by repeat (first | exact SubFr.nil | refine SubFr.cons rfl ?_)) (by repeat (first | exact DropL.refl | apply DropL.skip))) (fun y hy => ?_)
  obtain ⟨i, M3, D, n, A, c, B, k, P, q⟩ := y
  obtain ⟨hi, hm3, hDN, h128, hg, hnn, hD, hP⟩ := hy
  simp only at hi hm3 hDN h128 hg hnn hD hP
  subst hnn
  dsimp only
  clear hd hz hzg hz128 hzl hnew
  have o1 : openF (dk D) = (⟨(N : Int), ((recs D).length : Int), recs D⟩, 0) := by rw [openF_dk (by omega) (by omega) h128, hDN]
  by_cases hlt : i < script.length
  rotate_left
  · repeat (first | ((with_reducible refine Tr.step rfl ?_); (first | ((with_reducible refine Knd.load ?_); ((refine Exec.stab rfl (Stab.loadW rfl (tysOk.get rfl) rfl (by repeat (first | exact Has.here | apply Has.there)) rfl) rfl ?_))) | ((with_reducible refine Knd.binOp ?_); ((refine Exec.stab rfl (Stab.int rfl rfl rfl) rfl ?_))))) | (with_reducible refine Tr.next ?_) | (with_reducible refine Tr.seq ?_) | (with_reducible refine Tr.region ?_) | (with_reducible refine Tr.nil ?_) | (with_reducible refine Tr.exit ?_) | (with_reducible refine Tr.then_exit ?_) | ((with_reducible refine Tr.in_exit ?_ ?_); (exact rfl)) | (refine Tr.cond_f rfl (by first | (with_reducible assumption) | (with_reducible rfl) | (with_reducible exact (not_not_intro rfl)) | omega) ?_))
    ((refine Tr.step rfl ?_)); refine Exec.call0 rfl (fx_open M3 _ D N _ _ hD o1) rfl ?_
    rintro _ M4 hm4 ⟨A4, c4, rfl, hj⟩
    obtain ⟨_, _, ex, hr4⟩ := id hj
    cases ex
    have hsame := sameR_fn M4 A4 P c4 q (recs D) (recs D) hr4 (hP.mono RSec.mono hm4)
    rw [decide_eq_true rfl] at hsame
    repeat (first | ((with_reducible refine Tr.step rfl ?_); (first | ((with_reducible refine Knd.move ?_); (refine Exec.stab rfl (Stab.move rfl) rfl ?_)) | ((with_reducible refine Knd.assign ?_); (refine Exec.stab rfl (Stab.assign rfl) rfl ?_)) | ((with_reducible refine Knd.binOp ?_); ((refine Exec.stab rfl (Stab.int rfl rfl rfl) rfl ?_))) | ((with_reducible refine Knd.store ?_); ((refine Exec.storeW rfl rfl (tysOk.get rfl) (by repeat (first | exact Upd.here | apply Upd.there)) rfl rfl (by repeat (first | exact AllOne.nil | refine AllOne.cons (by first | rfl | assumption) ?_)) ?_))) | ((with_reducible refine Knd.alloc ?_); (first | (refine Exec.alloc (tysOk.get rfl) rfl rfl (fun b => ?_)) | (refine Exec.alloc1 (tysOk.get rfl) rfl rfl rfl (fun b => ?_)))) | ((with_reducible refine Knd.extract ?_); (refine Exec.stab rfl (Stab.extract rfl rfl) rfl ?_)))) | (with_reducible refine Tr.next ?_) | (with_reducible refine Tr.seq ?_) | (with_reducible refine Tr.region ?_) | (with_reducible refine Tr.nil ?_) | ((refine Tr.guard_y rfl rfl rfl (by first | (with_reducible assumption) | (with_reducible rfl) | (with_reducible exact (not_not_intro rfl)) | omega) ?_); (first | ((with_reducible refine Knd.move ?_); (refine Exec.stab rfl (Stab.move rfl) rfl ?_)) | ((with_reducible refine Knd.load ?_); ((refine Exec.stab rfl (Stab.load rfl (tysOk.get rfl) rfl (by repeat (first | exact Has.here | apply Has.there)) rfl) rfl ?_))) | ((with_reducible refine Knd.fieldAddr ?_); ((refine Exec.stab rfl (Stab.fieldZ rfl (tysOk.get rfl) rfl rfl (tysOk.get rfl) rfl) rfl ?_))))))
    ((refine Tr.guard_y rfl rfl rfl (by first | (with_reducible assumption) | (with_reducible rfl) | (with_reducible exact (not_not_intro rfl)) | omega) ?_)); refine Exec.call0 rfl (hsame) rfl ?_
    rintro _ _ _ ⟨rfl, rfl⟩
    repeat (first | ((with_reducible refine Tr.step rfl ?_); (first | ((with_reducible refine Knd.assign ?_); (refine Exec.stab rfl (Stab.assign rfl) rfl ?_)) | ((with_reducible refine Knd.pick ?_); ((refine Exec.stab rfl (Stab.pick_td rfl (by first | (with_reducible assumption) | (with_reducible rfl) | (with_reducible exact (not_not_intro rfl)) | omega) rfl) rfl ?_))))) | (with_reducible refine Tr.next ?_) | (with_reducible refine Tr.nil ?_) | (with_reducible refine Tr.ret ?_))
    have hlast := hm12.trans (hm3.trans hm4)
    (refine Tr.done (by first | exact .inl rfl | exact .inr rfl) rfl (by repeat (first | exact RVs.nil | (apply RVs.cons; (exact RV.tmp rfl)))) (by first | exact Mem.le.refl _ | assumption) (by exact ⟨[_, _], rfl⟩) ⟨rfl, ?_⟩)
    rfl
  obtain ⟨x, hx⟩ := get_of_lt hlt
  obtain ⟨hA, ch, hat, Ar, kr, rfl, hr⟩ := (h.mono RCrs.mono (hm12.trans hm3)).elem hx
  have htx := ht x (List.mem_of_getElem? hx)
  have hfew := few_jfn M3 _ (dk D) Ar kr x.rcs hD hr htx
  repeat (first | ((with_reducible refine Tr.step rfl ?_); (first | ((with_reducible refine Knd.load ?_); (first | (refine Exec.stab rfl (Stab.load rfl (tysOk.get rfl) rfl (by repeat (first | exact Has.here | apply Has.there)) rfl) rfl ?_) | (refine Exec.stab rfl (Stab.loadW rfl (tysOk.get rfl) rfl (by repeat (first | exact Has.here | apply Has.there)) rfl) rfl ?_) | (refine Exec.stab rfl (Stab.loadMA rfl (tysOk.get rfl) rfl (by assumption) (by first | rfl | assumption)) rfl ?_))) | ((with_reducible refine Knd.fieldAddr ?_); ((refine Exec.stab rfl (Stab.fieldZ rfl (tysOk.get rfl) rfl rfl (tysOk.get rfl) rfl) rfl ?_))) | ((with_reducible refine Knd.binOp ?_); ((refine Exec.stab rfl (Stab.int rfl rfl rfl) rfl ?_))) | ((with_reducible refine Knd.store ?_); ((refine Exec.storeW rfl rfl (tysOk.get rfl) (by repeat (first | exact Upd.here | apply Upd.there)) rfl rfl (by repeat (first | exact AllOne.nil | refine AllOne.cons (by first | rfl | assumption) ?_)) ?_))) | ((with_reducible refine Knd.alloc ?_); (first | (refine Exec.alloc (tysOk.get rfl) rfl rfl (fun b => ?_)) | (refine Exec.alloc1 (tysOk.get rfl) rfl rfl rfl (fun b => ?_)))) | ((with_reducible refine Knd.indexAddr ?_); ((refine Exec.stab rfl (Stab.indexAddr rfl rfl (tysOk.get rfl) rfl (tysOk.get rfl) rfl (by omega) (by omega) (by first | rfl | assumption)) rfl ?_))))) | (with_reducible refine Tr.next ?_) | (with_reducible refine Tr.seq ?_) | (with_reducible refine Tr.region ?_) | (with_reducible refine Tr.nil ?_) | (with_reducible refine Tr.skip ?_) | (with_reducible refine Tr.block ?_) | (refine Tr.cond_t rfl (by first | (with_reducible assumption) | (with_reducible rfl) | (with_reducible exact (not_not_intro rfl)) | omega) ?_))
  generalize b = bc
  ((refine Tr.step rfl ?_)); refine Exec.call0 rfl (hfew) rfl ?_
  rintro _ _ _ ⟨rfl, rfl⟩
  by_cases hf : fewP (dk D) x.rcs
  rotate_left
  · rw [decide_eq_false hf]
    repeat (first | ((with_reducible refine Tr.step rfl ?_); (first | ((with_reducible refine Knd.assign ?_); (refine Exec.stab rfl (Stab.assign rfl) rfl ?_)) | ((with_reducible refine Knd.unOp ?_); ((refine Exec.stab rfl (Stab.not rfl) rfl ?_))))) | (with_reducible refine Tr.next ?_) | (with_reducible refine Tr.seq ?_) | (with_reducible refine Tr.region ?_) | (with_reducible refine Tr.nil ?_) | (with_reducible refine Tr.ret ?_) | (with_reducible refine Tr.then_ret ?_) | (with_reducible refine Tr.in_ret ?_) | (refine Tr.cond_bt rfl (by first | (with_reducible rfl) | (with_reducible assumption) | (with_reducible exact Bool.not_true) | (with_reducible exact Bool.not_false)) ?_))
    have hlast := hm12.trans hm3
    (refine Tr.done (by first | exact .inl rfl | exact .inr rfl) rfl (by repeat (first | exact RVs.nil | (apply RVs.cons; (exact RV.tmp rfl)))) (by first | exact Mem.le.refl _ | assumption) (by exact ⟨[_, _], rfl⟩) ⟨rfl, ?_⟩)
    rfl
  rw [decide_eq_true hf]
  clear hfew
  repeat (first | ((with_reducible refine Tr.step rfl ?_); (first | ((with_reducible refine Knd.load ?_); ((refine Exec.stab rfl (Stab.loadW rfl (tysOk.get rfl) rfl (by repeat (first | exact Has.here | apply Has.there)) rfl) rfl ?_))) | ((with_reducible refine Knd.unOp ?_); ((refine Exec.stab rfl (Stab.not rfl) rfl ?_))))) | (with_reducible refine Tr.next ?_) | (with_reducible refine Tr.seq ?_) | (with_reducible refine Tr.region ?_) | (with_reducible refine Tr.nil ?_) | (with_reducible refine Tr.skip ?_) | (refine Tr.cond_bf rfl (by first | (with_reducible rfl) | (with_reducible assumption) | (with_reducible exact Bool.not_true) | (with_reducible exact Bool.not_false)) ?_))
  ((refine Tr.step rfl ?_)); refine Exec.call0 rfl (fx_open M3 _ D N _ _ hD o1) rfl ?_
  rintro _ M4 hm4 ⟨A4, c4, rfl, hj⟩
  obtain ⟨_, _, ex, hr4⟩ := id hj
  cases ex
  have hsame := sameR_fn M4 A4 P c4 q (recs D) (recs D) hr4 (hP.mono RSec.mono hm4)
  rw [decide_eq_true rfl] at hsame
  repeat (first | ((with_reducible refine Tr.step rfl ?_); (first | ((with_reducible refine Knd.move ?_); (refine Exec.stab rfl (Stab.move rfl) rfl ?_)) | ((with_reducible refine Knd.assign ?_); (refine Exec.stab rfl (Stab.assign rfl) rfl ?_)) | ((with_reducible refine Knd.binOp ?_); ((refine Exec.stab rfl (Stab.int rfl rfl rfl) rfl ?_))) | ((with_reducible refine Knd.pick ?_); ((refine Exec.stab rfl (Stab.pick_fd rfl (by first | (with_reducible assumption) | (with_reducible rfl) | (with_reducible exact (not_not_intro rfl)) | omega) rfl) rfl ?_))) | ((with_reducible refine Knd.store ?_); ((refine Exec.storeW rfl rfl (tysOk.get rfl) (by repeat (first | exact Upd.here | apply Upd.there)) rfl rfl (by repeat (first | exact AllOne.nil | refine AllOne.cons (by first | rfl | assumption) ?_)) ?_))) | ((with_reducible refine Knd.alloc ?_); (first | (refine Exec.alloc (tysOk.get rfl) rfl rfl (fun b => ?_)) | (refine Exec.alloc1 (tysOk.get rfl) rfl rfl rfl (fun b => ?_)))) | ((with_reducible refine Knd.extract ?_); (refine Exec.stab rfl (Stab.extract rfl rfl) rfl ?_)))) | (with_reducible refine Tr.next ?_) | (with_reducible refine Tr.seq ?_) | (with_reducible refine Tr.region ?_) | (with_reducible refine Tr.nil ?_) | ((refine Tr.guard_y' rfl rfl rfl (by first | (with_reducible assumption) | (with_reducible rfl) | (with_reducible exact (not_not_intro rfl)) | omega) ?_); (first | ((with_reducible refine Knd.move ?_); (refine Exec.stab rfl (Stab.move rfl) rfl ?_)) | ((with_reducible refine Knd.load ?_); ((refine Exec.stab rfl (Stab.load rfl (tysOk.get rfl) rfl (by repeat (first | exact Has.here | apply Has.there)) rfl) rfl ?_))) | ((with_reducible refine Knd.fieldAddr ?_); ((refine Exec.stab rfl (Stab.fieldZ rfl (tysOk.get rfl) rfl rfl (tysOk.get rfl) rfl) rfl ?_))) | ((with_reducible refine Knd.len ?_); ((refine Exec.stab rfl (Stab.len rfl (tysOk.get rfl) rfl) rfl ?_))) | ((with_reducible refine Knd.binOp ?_); ((refine Exec.stab rfl (Stab.int rfl rfl rfl) rfl ?_))))))
  ((refine Tr.guard_y' rfl rfl rfl (by first | (with_reducible assumption) | (with_reducible rfl) | (with_reducible exact (not_not_intro rfl)) | omega) ?_)); refine Exec.call0 rfl (hsame) rfl ?_
  rintro _ _ _ ⟨rfl, rfl⟩
  obtain ⟨T, t1, t2, t3⟩ := addF_dk (l := x.rcs) (by omega) (by omega) h128
  rw [hDN] at t1 t2 t3
  have hr' := hr.mono RSec.mono hm4
  have hlr := hr.len_le
  repeat (first | ((with_reducible refine Tr.step rfl ?_); (first | ((with_reducible refine Knd.move ?_); (refine Exec.stab rfl (Stab.move rfl) rfl ?_)) | ((with_reducible refine Knd.load ?_); ((refine Exec.stab rfl (Stab.load rfl (tysOk.get rfl) rfl (by repeat (first | exact Has.here | apply Has.there)) rfl) rfl ?_))) | ((with_reducible refine Knd.fieldAddr ?_); ((refine Exec.stab rfl (Stab.fieldZ rfl (tysOk.get rfl) rfl rfl (tysOk.get rfl) rfl) rfl ?_))) | ((with_reducible refine Knd.len ?_); ((refine Exec.stab rfl (Stab.len rfl (tysOk.get rfl) rfl) rfl ?_))) | ((with_reducible refine Knd.pick ?_); ((refine Exec.stab rfl (Stab.pick_fd rfl (by first | (with_reducible assumption) | (with_reducible rfl) | (with_reducible exact (not_not_intro rfl)) | omega) rfl) rfl ?_))))) | (with_reducible refine Tr.next ?_) | (with_reducible refine Tr.seq ?_) | (with_reducible refine Tr.region ?_) | (with_reducible refine Tr.nil ?_) | ((refine Tr.guard_y' rfl rfl rfl (by first | (with_reducible assumption) | (with_reducible rfl) | (with_reducible exact (not_not_intro rfl)) | omega) ?_); (((with_reducible refine Knd.unOp ?_); ((refine Exec.stab rfl (Stab.not rfl) rfl ?_))))) | (with_reducible refine Tr.skip ?_) | (with_reducible refine Tr.block ?_) | (refine Tr.cond_bf rfl (by first | (with_reducible rfl) | (with_reducible assumption) | (with_reducible exact Bool.not_true) | (with_reducible exact Bool.not_false)) ?_))
  generalize b = bl
  clear hsame
  generalize hj0 : (⟨(N : Int), ((recs D).length : Int), recs D⟩ : Jr) = j0 at t1 t2 hj hr4
  have hbox : box bl 29 [.int .i64 (N : Int), .int .i64 ((recs D).length : Int), .slice A4 (recs D).length c4] = box bl 29 [.int .i64 (addF j0 (x.rcs.take 0)).many, .int .i64 (addF j0 (x.rcs.take 0)).syn, .slice A4 (addF j0 (x.rcs.take 0)).rcs.length c4] := by rw [← hj0]; rfl
  rw [hbox]
  have hj1 : RJr M4 (.agg #[.int .i64 (addF j0 (x.rcs.take 0)).many, .int .i64 (addF j0 (x.rcs.take 0)).syn, .slice A4 (addF j0 (x.rcs.take 0)).rcs.length c4]) (addF j0 (x.rcs.take 0)) := by rw [← hj0] at hj ⊢; exact hj
  clear hj hbox
  refine Tr.loop (α := Nat × Mem × Option Addr × Nat) (fun y => ⟨195, [(74, .int .i64 (y.1 : Int)), (73, .int .i64 x.rcs.length), (72, .slice Ar x.rcs.length kr), (10, .pointer (some ⟨bl, 0, none⟩)), (9, .pointer (some ⟨bc, 0, none⟩)), (40, .int .i64 (i : Int)), (39, .int .i64 script.length), (38, .slice A0 script.length c0), (7, .slice P (recs D).length q), (5, .pointer (some ⟨bd, 0, none⟩))], [], y.2.1, box bl 29 [.int .i64 (addF j0 (x.rcs.take y.1)).many, .int .i64 (addF j0 (x.rcs.take y.1)).syn, .slice y.2.2.1 (addF j0 (x.rcs.take y.1)).rcs.length y.2.2.2] :: box bc 55 [.slice Ar x.rcs.length kr, .bool x.stop, .int .u8 (x.left.toNat : Int)] :: box bd 25 [.slice A N c, .slice B 0 k, .int .i64 (-1), .bool false] :: ([] ++ F)⟩)
    (fun y => y.1 ≤ x.rcs.length ∧ Mem.le M4 y.2.1 ∧ RJr y.2.1 (.agg #[.int .i64 (addF j0 (x.rcs.take y.1)).many, .int .i64 (addF j0 (x.rcs.take y.1)).syn, .slice y.2.2.1 (addF j0 (x.rcs.take y.1)).rcs.length y.2.2.2]) (addF j0 (x.rcs.take y.1))) (fun y => x.rcs.length - y.1) (0, M4, A4, c4) ⟨Nat.zero_le _, Mem.le.refl _, hj1⟩ (holds_sub (by repeat (first | exact SubFr.nil | refine SubFr.cons rfl ?_)) (by repeat (first | exact DropL.refl | apply DropL.skip))) (fun y hy => ?_)
  obtain ⟨i2, M5, A5, c5⟩ := y
  obtain ⟨hi2, hm5, hJ5⟩ := hy
  simp only at hi2 hm5 hJ5
  dsimp only
  clear hj1
  by_cases hlt2 : i2 < x.rcs.length
  · obtain ⟨r, hx2⟩ := get_of_lt hlt2
    obtain ⟨hA2, ch2, hat2, A6, k6, rfl, hxb⟩ := (hr'.mono RSec.mono hm5).elem hx2
    have hst := addF_take (j := j0) hx2
    have hki := addF_ok t2 (x.rcs.take i2)
    have hsm := okJ_small hki
    have htr := get_tot hx2
    generalize addF j0 (x.rcs.take i2) = ji at hJ5 hst hki hsm
    generalize hjn : addF j0 (x.rcs.take (i2 + 1)) = jn at hst
    have happ := append_fn M5 _ ji A6 k6 r hJ5 hxb (by omega) (by omega) (by omega)
    repeat (first | ((with_reducible refine Tr.step rfl ?_); (first | ((with_reducible refine Knd.move ?_); (refine Exec.stab rfl (Stab.move rfl) rfl ?_)) | ((with_reducible refine Knd.assign ?_); (refine Exec.stab rfl (Stab.assign rfl) rfl ?_)) | ((with_reducible refine Knd.load ?_); (first | (refine Exec.stab rfl (Stab.loadW rfl (tysOk.get rfl) rfl (by repeat (first | exact Has.here | apply Has.there)) rfl) rfl ?_) | (refine Exec.stab rfl (Stab.loadM rfl (tysOk.get rfl) rfl (by assumption)) rfl ?_))) | ((with_reducible refine Knd.binOp ?_); ((refine Exec.stab rfl (Stab.int rfl rfl rfl) rfl ?_))) | ((with_reducible refine Knd.indexAddr ?_); ((refine Exec.stab rfl (Stab.indexAddr rfl rfl (tysOk.get rfl) rfl (tysOk.get rfl) rfl (by omega) (by omega) (by first | rfl | assumption)) rfl ?_))))) | (with_reducible refine Tr.next ?_) | (with_reducible refine Tr.seq ?_) | (with_reducible refine Tr.region ?_) | (with_reducible refine Tr.nil ?_) | (with_reducible refine Tr.skip ?_) | (with_reducible refine Tr.block ?_) | (refine Tr.cond_t rfl (by first | (with_reducible assumption) | (with_reducible rfl) | (with_reducible exact (not_not_intro rfl)) | omega) ?_))
    ((refine Tr.step rfl ?_)); refine Exec.call0 rfl (happ) rfl ?_
    rintro _ M6 hm6 hQ
    generalize appF ji r = p at hQ hst
    obtain ⟨q2, e⟩ := p
    obtain ⟨A7, c7, rfl, hq⟩ := hQ.openJ
    simp only at hst
    by_cases he : e = 0
    · rw [if_pos he] at hst
      subst hst
      repeat (first | ((with_reducible refine Tr.step rfl ?_); (first | ((with_reducible refine Knd.move ?_); (refine Exec.stab rfl (Stab.move rfl) rfl ?_)) | ((with_reducible refine Knd.assign ?_); (refine Exec.stab rfl (Stab.assign rfl) rfl ?_)) | ((with_reducible refine Knd.load ?_); ((refine Exec.stab rfl (Stab.loadW rfl (tysOk.get rfl) rfl (by repeat (first | exact Has.here | apply Has.there)) rfl) rfl ?_))) | ((with_reducible refine Knd.binOp ?_); (first | (refine Exec.stab rfl (Stab.addi rfl rfl (by omega)) rfl ?_) | (refine Exec.stab rfl (Stab.int rfl rfl rfl) rfl ?_))) | ((with_reducible refine Knd.store ?_); ((refine Exec.storeW rfl rfl (tysOk.get rfl) (by repeat (first | exact Upd.here | apply Upd.there)) rfl rfl (by repeat (first | exact AllOne.nil | refine AllOne.cons (by first | rfl | assumption) ?_)) ?_))) | ((with_reducible refine Knd.alloc ?_); (first | (refine Exec.alloc (tysOk.get rfl) rfl rfl (fun b => ?_)) | (refine Exec.alloc1 (tysOk.get rfl) rfl rfl rfl (fun b => ?_)))) | ((with_reducible refine Knd.extract ?_); (refine Exec.stab rfl (Stab.extract rfl rfl) rfl ?_)))) | (with_reducible refine Tr.next ?_) | (with_reducible refine Tr.seq ?_) | (with_reducible refine Tr.region ?_) | (with_reducible refine Tr.nil ?_) | (with_reducible refine Tr.in_normal ?_) | (refine Tr.cond_t rfl (by first | (with_reducible assumption) | (with_reducible rfl) | (with_reducible exact (not_not_intro rfl)) | omega) ?_))
      refine Tr.give (r := box _ 29 [_, _, _]) (by repeat (first | exact Del.here | apply Del.there)) ?_
      refine Tr.again (i2 + 1, M6, A7, c7) ⟨by simp only; omega, hm5.trans hm6, by simp only; rw [hjn]; exact hq⟩ (by simp only; omega) ?_
      simp only
      rw [hjn]
      exact (holds_sub (by repeat (first | exact SubFr.nil | refine SubFr.cons rfl ?_)) (by repeat (first | exact DropL.refl | apply DropL.skip)))
    · rw [if_neg he] at hst
      subst hst
      repeat (first | ((with_reducible refine Tr.step rfl ?_); (first | ((with_reducible refine Knd.move ?_); (refine Exec.stab rfl (Stab.move rfl) rfl ?_)) | ((with_reducible refine Knd.assign ?_); (refine Exec.stab rfl (Stab.assign rfl) rfl ?_)) | ((with_reducible refine Knd.binOp ?_); (first | (refine Exec.stab rfl (Stab.addi rfl rfl (by omega)) rfl ?_) | (refine Exec.stab rfl (Stab.int rfl rfl rfl) rfl ?_))) | ((with_reducible refine Knd.store ?_); ((refine Exec.storeW rfl rfl (tysOk.get rfl) (by repeat (first | exact Upd.here | apply Upd.there)) rfl rfl (by repeat (first | exact AllOne.nil | refine AllOne.cons (by first | rfl | assumption) ?_)) ?_))) | ((with_reducible refine Knd.alloc ?_); (first | (refine Exec.alloc (tysOk.get rfl) rfl rfl (fun b => ?_)) | (refine Exec.alloc1 (tysOk.get rfl) rfl rfl rfl (fun b => ?_)))) | ((with_reducible refine Knd.extract ?_); (refine Exec.stab rfl (Stab.extract rfl rfl) rfl ?_)))) | (with_reducible refine Tr.next ?_) | (with_reducible refine Tr.seq ?_) | (with_reducible refine Tr.region ?_) | (with_reducible refine Tr.nil ?_) | (with_reducible refine Tr.skip ?_) | (with_reducible refine Tr.in_normal ?_) | (refine Tr.cond_f rfl (by first | (with_reducible assumption) | (with_reducible rfl) | (with_reducible exact (not_not_intro rfl)) | omega) ?_))
      refine Tr.give (r := box _ 29 [_, _, _]) (by repeat (first | exact Del.here | apply Del.there)) ?_
      refine Tr.again (i2 + 1, M6, A5, c5) ⟨by simp only; omega, hm5.trans hm6, by simp only; rw [hjn]; exact hJ5.mono hm6⟩ (by simp only; omega) ?_
      simp only
      rw [hjn]
      exact (holds_sub (by repeat (first | exact SubFr.nil | refine SubFr.cons rfl ?_)) (by repeat (first | exact DropL.refl | apply DropL.skip)))
  have e2 : i2 = x.rcs.length := by omega
  subst e2
  rw [List.take_length, t1] at hJ5 ⊢
  dsimp only at hJ5 ⊢
  have hlT : (recs D ++ T).length = (recs D).length + T.length := List.length_append
  clear t1 t2 hj0 hr'
  have hD5 := hD.mono (hm4.trans hm5)
  have hm35 := hm12.trans (hm3.trans (hm4.trans hm5))
  repeat (first | ((with_reducible refine Tr.step rfl ?_); (first | ((with_reducible refine Knd.move ?_); (refine Exec.stab rfl (Stab.move rfl) rfl ?_)) | ((with_reducible refine Knd.load ?_); ((refine Exec.stab rfl (Stab.load rfl (tysOk.get rfl) rfl (by repeat (first | exact Has.here | apply Has.there)) rfl) rfl ?_))) | ((with_reducible refine Knd.fieldAddr ?_); ((refine Exec.stab rfl (Stab.fieldZ rfl (tysOk.get rfl) rfl rfl (tysOk.get rfl) rfl) rfl ?_))) | ((with_reducible refine Knd.len ?_); ((refine Exec.stab rfl (Stab.len rfl (tysOk.get rfl) rfl) rfl ?_))) | ((with_reducible refine Knd.binOp ?_); ((refine Exec.stab rfl (Stab.int rfl rfl rfl) rfl ?_))))) | (with_reducible refine Tr.next ?_) | (with_reducible refine Tr.seq ?_) | (with_reducible refine Tr.region ?_) | (with_reducible refine Tr.nil ?_) | (with_reducible refine Tr.skip ?_) | (with_reducible refine Tr.exit ?_) | (with_reducible refine Tr.then_exit ?_) | ((with_reducible refine Tr.in_exit ?_ ?_); (exact rfl)) | (refine Tr.cond_f rfl (by first | (with_reducible assumption) | (with_reducible rfl) | (with_reducible exact (not_not_intro rfl)) | omega) ?_))
  refine Tr.cut (α := Int × (Option Addr × Nat) × (Option Addr × Nat)) (fun y => ⟨195, [(10, .pointer (some ⟨bl, 0, none⟩)), (9, .pointer (some ⟨bc, 0, none⟩)), (40, .int .i64 (i : Int)), (39, .int .i64 script.length), (38, .slice A0 script.length c0), (7, .slice P (recs D).length q), (5, .pointer (some ⟨bd, 0, none⟩))], [], M5, box bl 29 [.int .i64 (N : Int), .int .i64 ((recs D).length : Int), .slice A5 (recs D ++ T).length c5] :: box bc 55 [.slice Ar x.rcs.length kr, .bool x.stop, .int .u8 (x.left.toNat : Int)] :: box bd 25 [.slice y.2.1.1 N y.2.1.2, .slice y.2.2.1 0 y.2.2.2, .int .i64 y.1, .bool false] :: ([] ++ F)⟩)
    (fun y => -1 ≤ y.1 ∧ y.1 ≤ 40 ∧ (0 ≤ y.1 → x.stop = true) ∧ RDisk M5 (.agg #[.slice y.2.1.1 N y.2.1.2, .slice y.2.2.1 0 y.2.2.2, .int .i64 y.1, .bool false]) ⟨D, [], y.1, false⟩) ?_ (fun y hy => ?_)
  · by_cases hs : x.stop = true
    · rw [hs]
      have hl0 := x.left.toNat_lt
      have hstop := fx_stop M5 _ D ((x.left.toNat : Int) % 40) hD5 (by omega) (by omega) h128 (by omega) (by omega)
      repeat (first | ((with_reducible refine Tr.step rfl ?_); (first | ((with_reducible refine Knd.load ?_); (first | (refine Exec.stab rfl (Stab.load rfl (tysOk.get rfl) rfl (by repeat (first | exact Has.here | apply Has.there)) rfl) rfl ?_) | (refine Exec.stab rfl (Stab.loadW rfl (tysOk.get rfl) rfl (by repeat (first | exact Has.here | apply Has.there)) rfl) rfl ?_))) | ((with_reducible refine Knd.fieldAddr ?_); ((refine Exec.stab rfl (Stab.fieldZ rfl (tysOk.get rfl) rfl rfl (tysOk.get rfl) rfl) rfl ?_))) | ((with_reducible refine Knd.binOp ?_); ((refine Exec.stab rfl (Stab.remp rfl rfl (by omega) (by omega)) rfl ?_))) | ((with_reducible refine Knd.convert ?_); ((refine Exec.stab rfl (Stab.convi rfl (tysOk.get rfl) (tysOk.get rfl) rfl rfl (by omega)) rfl ?_))))) | (with_reducible refine Tr.seq ?_) | (with_reducible refine Tr.region ?_) | (refine Tr.cond_bt rfl (by first | (with_reducible rfl) | (with_reducible assumption) | (with_reducible exact Bool.not_true) | (with_reducible exact Bool.not_false)) ?_))
      ((refine Tr.step rfl ?_)); refine Exec.call0 rfl (hstop) rfl ?_
      rintro _ _ _ ⟨⟨A8, c8, B8, k8, rfl, hd8⟩, rfl⟩
      rw [hDN] at hd8 ⊢
      repeat (first | ((with_reducible refine Tr.step rfl ?_); (first | ((with_reducible refine Knd.move ?_); (refine Exec.stab rfl (Stab.move rfl) rfl ?_)) | ((with_reducible refine Knd.assign ?_); (refine Exec.stab rfl (Stab.assign rfl) rfl ?_)) | ((with_reducible refine Knd.binOp ?_); ((refine Exec.stab rfl (Stab.int rfl rfl rfl) rfl ?_))) | ((with_reducible refine Knd.store ?_); ((refine Exec.storeW rfl rfl (tysOk.get rfl) (by repeat (first | exact Upd.here | apply Upd.there)) rfl rfl (by repeat (first | exact AllOne.nil | refine AllOne.cons (by first | rfl | assumption) ?_)) ?_))) | ((with_reducible refine Knd.extract ?_); (refine Exec.stab rfl (Stab.extract rfl rfl) rfl ?_)))) | (with_reducible refine Tr.next ?_) | (with_reducible refine Tr.seq ?_) | (with_reducible refine Tr.region ?_) | (with_reducible refine Tr.nil ?_) | (with_reducible refine Tr.skip ?_) | (refine Tr.cond_f rfl (by first | (with_reducible assumption) | (with_reducible rfl) | (with_reducible exact (not_not_intro rfl)) | omega) ?_))
      refine Tr.land ((x.left.toNat : Int) % 40, (A8, c8), (B8, k8)) ⟨by simp only; omega, by simp only; omega, fun _ => rfl, hd8⟩ (holds_sub (by repeat (first | exact SubFr.nil | refine SubFr.cons rfl ?_)) (by repeat (first | exact DropL.refl | apply DropL.skip)))
    · have hs' : x.stop = false := Bool.eq_false_iff.2 hs
      rw [hs']
      repeat (first | (with_reducible refine Tr.skip ?_) | (refine Tr.cond_bf rfl (by first | (with_reducible rfl) | (with_reducible assumption) | (with_reducible exact Bool.not_true) | (with_reducible exact Bool.not_false)) ?_))
      refine Tr.land (-1, (A, c), (B, k)) ⟨by simp only; omega, by simp only; omega, by simp only; omega, hD5⟩ (holds_sub (by repeat (first | exact SubFr.nil | refine SubFr.cons rfl ?_)) (by repeat (first | exact DropL.refl | apply DropL.skip)))
  obtain ⟨L, ⟨A8, c8⟩, ⟨B8, k8⟩⟩ := y
  obtain ⟨hL1, hL2, hL3, hD8⟩ := hy
  simp only at hL1 hL2 hL3 hD8
  dsimp only
  obtain ⟨D', y1, y2, y3, hs⟩ := surv_sync (D := D) (B := T) (L := L) (by rw [hDN]; exact t3) h128 (by omega) hL1 (by omega)
  rw [hDN] at hs y1
  have hoc : occs (recs D ++ T) ≤ 1000000000 := by have := okJ_small t3; dsimp only at this; omega
  rcases hs with ⟨L', hs, hrec⟩ | ⟨hL0, m, hs, hmT, hrec⟩
  · have hsy := fx_syncL M5 _ _ _ _ _ _ _ hJ5 hD8 hoc hs
    repeat (first | ((with_reducible refine Tr.step rfl ?_); (((with_reducible refine Knd.load ?_); ((refine Exec.stab rfl (Stab.loadW rfl (tysOk.get rfl) rfl (by repeat (first | exact Has.here | apply Has.there)) rfl) rfl ?_))))) | (with_reducible refine Tr.next ?_) | (with_reducible refine Tr.seq ?_) | (with_reducible refine Tr.region ?_))
    ((refine Tr.step rfl ?_)); refine Exec.call0 rfl (hsy) rfl ?_
    rintro _ M6 hm6 ⟨A9, c9, A10, c10, B10, k10, rfl, hj2, hd2⟩
    dsimp only at hj2 hd2 ⊢
    obtain ⟨_, _, ex5, hr5⟩ := id hJ5
    cases ex5
    obtain ⟨_, _, ex6, hr6⟩ := id hj2
    cases ex6
    have hsame := sameR_fn M6 A9 A5 c9 c5 _ _ hr6 (hr5.mono RSec.mono hm6)
    rw [decide_eq_true rfl] at hsame
    dsimp only at hsame
    repeat (first | ((with_reducible refine Tr.step rfl ?_); (first | ((with_reducible refine Knd.move ?_); (refine Exec.stab rfl (Stab.move rfl) rfl ?_)) | ((with_reducible refine Knd.assign ?_); (refine Exec.stab rfl (Stab.assign rfl) rfl ?_)) | ((with_reducible refine Knd.load ?_); ((refine Exec.stab rfl (Stab.load rfl (tysOk.get rfl) rfl (by repeat (first | exact Has.here | apply Has.there)) rfl) rfl ?_))) | ((with_reducible refine Knd.fieldAddr ?_); ((refine Exec.stab rfl (Stab.fieldZ rfl (tysOk.get rfl) rfl rfl (tysOk.get rfl) rfl) rfl ?_))) | ((with_reducible refine Knd.len ?_); ((refine Exec.stab rfl (Stab.len rfl (tysOk.get rfl) rfl) rfl ?_))) | ((with_reducible refine Knd.binOp ?_); ((refine Exec.stab rfl (Stab.int rfl rfl rfl) rfl ?_))) | ((with_reducible refine Knd.store ?_); ((refine Exec.storeW rfl rfl (tysOk.get rfl) (by repeat (first | exact Upd.here | apply Upd.there)) rfl rfl (by repeat (first | exact AllOne.nil | refine AllOne.cons (by first | rfl | assumption) ?_)) ?_))) | ((with_reducible refine Knd.alloc ?_); (first | (refine Exec.alloc (tysOk.get rfl) rfl rfl (fun b => ?_)) | (refine Exec.alloc1 (tysOk.get rfl) rfl rfl rfl (fun b => ?_)))) | ((with_reducible refine Knd.extract ?_); (refine Exec.stab rfl (Stab.extract rfl rfl) rfl ?_)))) | (with_reducible refine Tr.next ?_) | (with_reducible refine Tr.seq ?_) | (with_reducible refine Tr.region ?_) | (with_reducible refine Tr.nil ?_) | ((refine Tr.guard_y' rfl rfl rfl (by first | (with_reducible assumption) | (with_reducible rfl) | (with_reducible exact (not_not_intro rfl)) | omega) ?_); (first | ((with_reducible refine Knd.load ?_); ((refine Exec.stab rfl (Stab.load rfl (tysOk.get rfl) rfl (by repeat (first | exact Has.here | apply Has.there)) rfl) rfl ?_))) | ((with_reducible refine Knd.fieldAddr ?_); ((refine Exec.stab rfl (Stab.fieldZ rfl (tysOk.get rfl) rfl rfl (tysOk.get rfl) rfl) rfl ?_))))) | (with_reducible refine Tr.block ?_) | (refine Tr.cond_t rfl (by first | (with_reducible assumption) | (with_reducible rfl) | (with_reducible exact (not_not_intro rfl)) | omega) ?_))
    ((refine Tr.guard_y' rfl rfl rfl (by first | (with_reducible assumption) | (with_reducible rfl) | (with_reducible exact (not_not_intro rfl)) | omega) ?_)); refine Exec.call0 rfl (hsame) rfl ?_
    rintro _ _ _ ⟨rfl, rfl⟩
    repeat (first | ((with_reducible refine Tr.step rfl ?_); (first | ((with_reducible refine Knd.assign ?_); (refine Exec.stab rfl (Stab.assign rfl) rfl ?_)) | ((with_reducible refine Knd.load ?_); (first | (refine Exec.stab rfl (Stab.load rfl (tysOk.get rfl) rfl (by repeat (first | exact Has.here | apply Has.there)) rfl) rfl ?_) | (refine Exec.stab rfl (Stab.loadW rfl (tysOk.get rfl) rfl (by repeat (first | exact Has.here | apply Has.there)) rfl) rfl ?_))) | ((with_reducible refine Knd.fieldAddr ?_); ((refine Exec.stab rfl (Stab.fieldZ rfl (tysOk.get rfl) rfl rfl (tysOk.get rfl) rfl) rfl ?_))) | ((with_reducible refine Knd.pick ?_); ((refine Exec.stab rfl (Stab.pick_fd rfl (by first | (with_reducible assumption) | (with_reducible rfl) | (with_reducible exact (not_not_intro rfl)) | omega) rfl) rfl ?_))))) | (with_reducible refine Tr.next ?_) | (with_reducible refine Tr.region ?_) | (with_reducible refine Tr.nil ?_) | ((refine Tr.guard_y' rfl rfl rfl (by first | (with_reducible assumption) | (with_reducible rfl) | (with_reducible exact (not_not_intro rfl)) | omega) ?_); (((with_reducible refine Knd.unOp ?_); ((refine Exec.stab rfl (Stab.not rfl) rfl ?_))))) | (with_reducible refine Tr.skip ?_) | (with_reducible refine Tr.in_normal ?_) | (refine Tr.cond_bf rfl (by first | (with_reducible rfl) | (with_reducible assumption) | (with_reducible exact Bool.not_true) | (with_reducible exact Bool.not_false)) ?_))
    ((refine Tr.step rfl ?_)); refine Exec.call0 rfl (fx_restart M6 _ _ hd2) rfl ?_
    rintro _ _ _ ⟨⟨A11, c11, B11, k11, rfl, hd3⟩, rfl⟩
    dsimp only at hd3 ⊢
    rw [y1] at hd3 ⊢
    repeat (first | ((with_reducible refine Tr.step rfl ?_); (first | ((with_reducible refine Knd.move ?_); (refine Exec.stab rfl (Stab.move rfl) rfl ?_)) | ((with_reducible refine Knd.binOp ?_); ((refine Exec.stab rfl (Stab.addi rfl rfl (by omega)) rfl ?_))) | ((with_reducible refine Knd.store ?_); ((refine Exec.storeW rfl rfl (tysOk.get rfl) (by repeat (first | exact Upd.here | apply Upd.there)) rfl rfl (by repeat (first | exact AllOne.nil | refine AllOne.cons (by first | rfl | assumption) ?_)) ?_))))) | (with_reducible refine Tr.next ?_) | (with_reducible refine Tr.region ?_) | (with_reducible refine Tr.nil ?_) | (with_reducible refine Tr.in_normal ?_))
    refine Tr.again ⟨i + 1, M6, D', (recs D ++ T).length, A11, c11, B11, k11, A5, c5⟩ ⟨by simp only; omega, hm3.trans (hm4.trans (hm5.trans hm6)), y1, y2, by simp only; omega, by simp only; rw [hrec], hd3, by simp only; rw [hrec]; exact hr5.mono RSec.mono hm6⟩ (by simp only; omega) (holds_sub (by repeat (first | exact SubFr.nil | refine SubFr.cons rfl ?_)) (by repeat (first | exact DropL.refl | apply DropL.skip)))
  · have hst := hL3 hL0
    have hsy := fx_syncL M5 _ _ _ _ _ _ _ hJ5 hD8 hoc hs
    rw [hst]
    repeat (first | ((with_reducible refine Tr.step rfl ?_); (((with_reducible refine Knd.load ?_); ((refine Exec.stab rfl (Stab.loadW rfl (tysOk.get rfl) rfl (by repeat (first | exact Has.here | apply Has.there)) rfl) rfl ?_))))) | (with_reducible refine Tr.next ?_) | (with_reducible refine Tr.seq ?_) | (with_reducible refine Tr.region ?_))
    ((refine Tr.step rfl ?_)); refine Exec.call0 rfl (hsy) rfl ?_
    rintro _ M6 hm6 ⟨A9, c9, A10, c10, B10, k10, rfl, hj2, hd2⟩
    dsimp only at hj2 hd2 ⊢
    repeat (first | ((with_reducible refine Tr.step rfl ?_); (first | ((with_reducible refine Knd.move ?_); (refine Exec.stab rfl (Stab.move rfl) rfl ?_)) | ((with_reducible refine Knd.assign ?_); (refine Exec.stab rfl (Stab.assign rfl) rfl ?_)) | ((with_reducible refine Knd.load ?_); ((refine Exec.stab rfl (Stab.loadW rfl (tysOk.get rfl) rfl (by repeat (first | exact Has.here | apply Has.there)) rfl) rfl ?_))) | ((with_reducible refine Knd.binOp ?_); ((refine Exec.stab rfl (Stab.int rfl rfl rfl) rfl ?_))) | ((with_reducible refine Knd.store ?_); ((refine Exec.storeW rfl rfl (tysOk.get rfl) (by repeat (first | exact Upd.here | apply Upd.there)) rfl rfl (by repeat (first | exact AllOne.nil | refine AllOne.cons (by first | rfl | assumption) ?_)) ?_))) | ((with_reducible refine Knd.alloc ?_); (first | (refine Exec.alloc (tysOk.get rfl) rfl rfl (fun b => ?_)) | (refine Exec.alloc1 (tysOk.get rfl) rfl rfl rfl (fun b => ?_)))) | ((with_reducible refine Knd.extract ?_); (refine Exec.stab rfl (Stab.extract rfl rfl) rfl ?_)))) | (with_reducible refine Tr.next ?_) | (with_reducible refine Tr.seq ?_) | (with_reducible refine Tr.region ?_) | (with_reducible refine Tr.nil ?_) | (with_reducible refine Tr.block ?_) | (refine Tr.cond_t rfl (by first | (with_reducible assumption) | (with_reducible rfl) | (with_reducible exact (not_not_intro rfl)) | omega) ?_) | (refine Tr.cond_f rfl (by first | (with_reducible assumption) | (with_reducible rfl) | (with_reducible exact (not_not_intro rfl)) | omega) ?_))
    ((refine Tr.step rfl ?_)); refine Exec.call0 rfl (fx_restart M6 _ _ hd2) rfl ?_
    rintro _ _ _ ⟨⟨A11, c11, B11, k11, rfl, hd3⟩, rfl⟩
    dsimp only at hd3 ⊢
    have o2 : openF (dk D') = (⟨(N : Int), ((recs D').length : Int), recs D'⟩, 0) := by rw [openF_dk (by omega) (by omega) y2, y1]
    repeat (fail)
    ((refine Tr.step rfl ?_)); refine Exec.call0 rfl (fx_open M6 _ D' N _ _ hd3 o2) rfl ?_
    rintro _ M7 hm7 ⟨A12, c12, rfl, hj3⟩
    obtain ⟨_, _, ex5, hr5⟩ := id hJ5
    cases ex5
    obtain ⟨_, _, ex6, hr6⟩ := id hj3
    cases ex6
    dsimp only at hr5 hr6
    have hlm : (T.take m).length = m := by rw [List.length_take]; omega
    have hl' : (recs D').length = (recs D).length + m := by rw [hrec, List.length_append, hlm]
    have htk : (recs D ++ T).take ((recs D).length + m) = recs D' := by rw [hrec, List.take_append, List.take_of_length_le (by omega), show (recs D).length + m - (recs D).length = m by omega]
    have hc5 : (recs D ++ T).length ≤ c5 ∧ c5 ≤ 9223372036854775807 := by
      obtain ⟨_, -, g1, g2, -⟩ := hr5.cells
      exact ⟨g1, g2⟩
    have hpre := (hr5.mono RSec.mono (hm6.trans hm7)).pre (k := (recs D).length + m) (m := c5) (by omega) (by omega) (Nat.le_refl _)
    rw [htk] at hpre
    have hsame := sameR_fn M7 A12 A5 c12 c5 _ _ hr6 (by rw [hl']; exact hpre)
    rw [decide_eq_true rfl, hl'] at hsame
    rw [hl']
    repeat (first | ((with_reducible refine Tr.step rfl ?_); (first | ((with_reducible refine Knd.move ?_); (refine Exec.stab rfl (Stab.move rfl) rfl ?_)) | ((with_reducible refine Knd.assign ?_); (refine Exec.stab rfl (Stab.assign rfl) rfl ?_)) | ((with_reducible refine Knd.store ?_); ((refine Exec.storeW rfl rfl (tysOk.get rfl) (by repeat (first | exact Upd.here | apply Upd.there)) rfl rfl (by repeat (first | exact AllOne.nil | refine AllOne.cons (by first | rfl | assumption) ?_)) ?_))) | ((with_reducible refine Knd.alloc ?_); (first | (refine Exec.alloc (tysOk.get rfl) rfl rfl (fun b => ?_)) | (refine Exec.alloc1 (tysOk.get rfl) rfl rfl rfl (fun b => ?_)))) | ((with_reducible refine Knd.extract ?_); (refine Exec.stab rfl (Stab.extract rfl rfl) rfl ?_)))) | (with_reducible refine Tr.next ?_) | (with_reducible refine Tr.seq ?_) | (with_reducible refine Tr.nil ?_))
    (((apply Tr.draw); (kernel_rfl)); (refine TrA.take 0 (by kernel_rfl) rfl (by kernel_rfl) (by first | exact fun _ _ _ h => h | exact fun _ _ _ h => nomatch h.1) (by exact fun _ h => h) rfl (by exact Stab.fieldZ rfl (tysOk.get rfl) rfl rfl (tysOk.get rfl) rfl) rfl rfl ?_); (refine TrA.take 1 (by kernel_rfl) rfl (by kernel_rfl) (by first | exact fun _ _ _ h => h | exact fun _ _ _ h => nomatch h.1) (by exact fun _ h => h) rfl (by exact Stab.load rfl (tysOk.get rfl) rfl (by repeat (first | exact Has.here | apply Has.there)) rfl) rfl rfl ?_); (refine TrA.take 2 (by kernel_rfl) rfl (by kernel_rfl) (by first | exact fun _ _ _ h => h | exact fun _ _ _ h => nomatch h.1) (by exact fun _ h => h) rfl (by first | exact Stab.notw rfl | exact Stab.notd rfl | exact Stab.not rfl | exact Stab.neg rfl (by omega)) rfl rfl ?_); (refine TrA.take 3 (by kernel_rfl) rfl (by kernel_rfl) (by first | exact fun _ _ _ h => h | exact fun _ _ _ h => nomatch h.1) (by exact fun _ h => h) rfl (by first | exact Stab.move rfl) rfl rfl ?_); ((refine TrA.takeg 4 (by kernel_rfl) rfl (by kernel_rfl) (by first | exact fun _ _ _ h => h | exact fun _ _ _ h => nomatch h.1) (by exact fun _ h => h) rfl rfl rfl (by first | (with_reducible rfl) | (with_reducible assumption) | (with_reducible exact Bool.not_true) | (with_reducible exact Bool.not_false)) (by first | exact Stab.move rfl) rfl rfl ?_)); ((refine TrA.takeg 5 (by kernel_rfl) rfl (by kernel_rfl) (by first | exact fun _ _ _ h => h | exact fun _ _ _ h => nomatch h.1) (by exact fun _ h => h) rfl rfl rfl (by first | (with_reducible rfl) | (with_reducible assumption) | (with_reducible exact Bool.not_true) | (with_reducible exact Bool.not_false)) (by exact Stab.int rfl rfl rfl) rfl rfl ?_)); (refine TrA.take 6 (by kernel_rfl) rfl (by kernel_rfl) (by first | exact fun _ _ _ h => h | exact fun _ _ _ h => nomatch h.1) (by exact fun _ h => h) rfl (by exact Stab.pick_f rfl (by first | (with_reducible rfl) | (with_reducible assumption) | (with_reducible exact Bool.not_true) | (with_reducible exact Bool.not_false)) rfl) rfl rfl ?_); (refine TrA.take 7 (by kernel_rfl) rfl (by kernel_rfl) (by first | exact fun _ _ _ h => h | exact fun _ _ _ h => nomatch h.1) (by exact fun _ h => h) rfl (by first | exact Stab.move rfl) rfl rfl ?_); ((refine TrA.takeg 8 (by kernel_rfl) rfl (by kernel_rfl) (by first | exact fun _ _ _ h => h | exact fun _ _ _ h => nomatch h.1) (by exact fun _ h => h) rfl rfl rfl (decide_eq_false (by first | (with_reducible assumption) | (with_reducible rfl) | (with_reducible exact (not_not_intro rfl)) | omega)) (by exact Stab.fieldZ rfl (tysOk.get rfl) rfl rfl (tysOk.get rfl) rfl) rfl rfl ?_)); ((refine TrA.takeg 11 (by kernel_rfl) rfl (by kernel_rfl) (by first | exact fun _ _ _ h => h | exact fun _ _ _ h => nomatch h.1) (by exact fun _ h => h) rfl rfl rfl (decide_eq_false (by first | (with_reducible assumption) | (with_reducible rfl) | (with_reducible exact (not_not_intro rfl)) | omega)) (by first | exact Stab.move rfl) rfl rfl ?_)); ((refine TrA.takeg 9 (by kernel_rfl) rfl (by kernel_rfl) (by first | exact fun _ _ _ h => h | exact fun _ _ _ h => nomatch h.1) (by exact fun _ h => h) rfl rfl rfl (decide_eq_false (by first | (with_reducible assumption) | (with_reducible rfl) | (with_reducible exact (not_not_intro rfl)) | omega)) (by exact Stab.load rfl (tysOk.get rfl) rfl (by repeat (first | exact Has.here | apply Has.there)) rfl) rfl rfl ?_)); ((refine TrA.takeg 12 (by kernel_rfl) rfl (by kernel_rfl) (by first | exact fun _ _ _ h => h | exact fun _ _ _ h => nomatch h.1) (by exact fun _ h => h) rfl rfl rfl (decide_eq_false (by first | (with_reducible assumption) | (with_reducible rfl) | (with_reducible exact (not_not_intro rfl)) | omega)) (by first | exact Stab.len rfl (tysOk.get rfl) rfl | exact Stab.lensL rfl (tysOk.get rfl) rfl | exact Stab.lens rfl (tysOk.get rfl) rfl) rfl rfl ?_)); ((refine TrA.takeg 10 (by kernel_rfl) rfl (by kernel_rfl) (by first | exact fun _ _ _ h => h | exact fun _ _ _ h => nomatch h.1) (by exact fun _ h => h) rfl rfl rfl (decide_eq_false (by first | (with_reducible assumption) | (with_reducible rfl) | (with_reducible exact (not_not_intro rfl)) | omega)) (by first | exact Stab.len rfl (tysOk.get rfl) rfl | exact Stab.lensL rfl (tysOk.get rfl) rfl | exact Stab.lens rfl (tysOk.get rfl) rfl) rfl rfl ?_)); ((refine TrA.takeg 13 (by kernel_rfl) rfl (by kernel_rfl) (by first | exact fun _ _ _ h => h | exact fun _ _ _ h => nomatch h.1) (by exact fun _ h => h) rfl rfl rfl (decide_eq_false (by first | (with_reducible assumption) | (with_reducible rfl) | (with_reducible exact (not_not_intro rfl)) | omega)) (by exact Stab.int rfl rfl rfl) rfl rfl ?_)); (refine TrA.take 14 (by kernel_rfl) rfl (by kernel_rfl) (by first | exact fun _ _ _ h => h | exact fun _ _ _ h => nomatch h.1) (by exact fun _ h => h) rfl (by exact Stab.pick_fd rfl (by first | (with_reducible assumption) | (with_reducible rfl) | (with_reducible exact (not_not_intro rfl)) | omega) rfl) rfl rfl ?_); (refine TrA.take 15 (by kernel_rfl) rfl (by kernel_rfl) (by first | exact fun _ _ _ h => h | exact fun _ _ _ h => nomatch h.1) (by exact fun _ h => h) rfl (by first | exact Stab.move rfl) rfl rfl ?_); ((refine TrA.takeg 16 (by kernel_rfl) rfl (by kernel_rfl) (by first | exact fun _ _ _ h => h | exact fun _ _ _ h => nomatch h.1) (by exact fun _ h => h) rfl rfl rfl (decide_eq_false (by first | (with_reducible assumption) | (with_reducible rfl) | (with_reducible exact (not_not_intro rfl)) | omega)) (by exact Stab.fieldZ rfl (tysOk.get rfl) rfl rfl (tysOk.get rfl) rfl) rfl rfl ?_)); ((refine TrA.takeg 19 (by kernel_rfl) rfl (by kernel_rfl) (by first | exact fun _ _ _ h => h | exact fun _ _ _ h => nomatch h.1) (by exact fun _ h => h) rfl rfl rfl (decide_eq_false (by first | (with_reducible assumption) | (with_reducible rfl) | (with_reducible exact (not_not_intro rfl)) | omega)) (by exact Stab.fieldZ rfl (tysOk.get rfl) rfl rfl (tysOk.get rfl) rfl) rfl rfl ?_)); ((refine TrA.takeg 17 (by kernel_rfl) rfl (by kernel_rfl) (by first | exact fun _ _ _ h => h | exact fun _ _ _ h => nomatch h.1) (by exact fun _ h => h) rfl rfl rfl (decide_eq_false (by first | (with_reducible assumption) | (with_reducible rfl) | (with_reducible exact (not_not_intro rfl)) | omega)) (by exact Stab.load rfl (tysOk.get rfl) rfl (by repeat (first | exact Has.here | apply Has.there)) rfl) rfl rfl ?_)); ((refine TrA.takeg 20 (by kernel_rfl) rfl (by kernel_rfl) (by first | exact fun _ _ _ h => h | exact fun _ _ _ h => nomatch h.1) (by exact fun _ h => h) rfl rfl rfl (decide_eq_false (by first | (with_reducible assumption) | (with_reducible rfl) | (with_reducible exact (not_not_intro rfl)) | omega)) (by exact Stab.load rfl (tysOk.get rfl) rfl (by repeat (first | exact Has.here | apply Has.there)) rfl) rfl rfl ?_)); ((refine TrA.takeg 18 (by kernel_rfl) rfl (by kernel_rfl) (by first | exact fun _ _ _ h => h | exact fun _ _ _ h => nomatch h.1) (by exact fun _ h => h) rfl rfl rfl (decide_eq_false (by first | (with_reducible assumption) | (with_reducible rfl) | (with_reducible exact (not_not_intro rfl)) | omega)) (by first | exact Stab.len rfl (tysOk.get rfl) rfl | exact Stab.lensL rfl (tysOk.get rfl) rfl | exact Stab.lens rfl (tysOk.get rfl) rfl) rfl rfl ?_)); ((refine TrA.takeg 21 (by kernel_rfl) rfl (by kernel_rfl) (by first | exact fun _ _ _ h => h | exact fun _ _ _ h => nomatch h.1) (by exact fun _ h => h) rfl rfl rfl (decide_eq_false (by first | (with_reducible assumption) | (with_reducible rfl) | (with_reducible exact (not_not_intro rfl)) | omega)) (by first | exact Stab.len rfl (tysOk.get rfl) rfl | exact Stab.lensL rfl (tysOk.get rfl) rfl | exact Stab.lens rfl (tysOk.get rfl) rfl) rfl rfl ?_)); ((refine TrA.takeg 22 (by kernel_rfl) rfl (by kernel_rfl) (by first | exact fun _ _ _ h => h | exact fun _ _ _ h => nomatch h.1) (by exact fun _ h => h) rfl rfl rfl (decide_eq_false (by first | (with_reducible assumption) | (with_reducible rfl) | (with_reducible exact (not_not_intro rfl)) | omega)) (by exact Stab.int rfl rfl rfl) rfl rfl ?_)); (refine TrA.take 23 (by kernel_rfl) rfl (by kernel_rfl) (by first | exact fun _ _ _ h => h | exact fun _ _ _ h => nomatch h.1) (by exact fun _ h => h) rfl (by exact Stab.pick_fd rfl (by first | (with_reducible assumption) | (with_reducible rfl) | (with_reducible exact (not_not_intro rfl)) | omega) rfl) rfl rfl ?_); (refine TrA.take 24 (by kernel_rfl) rfl (by kernel_rfl) (by first | exact fun _ _ _ h => h | exact fun _ _ _ h => nomatch h.1) (by exact fun _ h => h) rfl (by first | exact Stab.move rfl) rfl rfl ?_))
    rw [decide_eq_false (show ¬ (((recs D ++ T).length : Int) < (((recs D).length + m : Nat) : Int)) by omega)]
    (((refine TrA.takeg 25 (by kernel_rfl) rfl (by kernel_rfl) (by first | exact fun _ _ _ h => h | exact fun _ _ _ h => nomatch h.1) (by exact fun _ h => h) rfl rfl rfl (by first | (with_reducible rfl) | (with_reducible assumption) | (with_reducible exact Bool.not_true) | (with_reducible exact Bool.not_false)) (by exact Stab.fieldZ rfl (tysOk.get rfl) rfl rfl (tysOk.get rfl) rfl) rfl rfl ?_)); ((refine TrA.takeg 27 (by kernel_rfl) rfl (by kernel_rfl) (by first | exact fun _ _ _ h => h | exact fun _ _ _ h => nomatch h.1) (by exact fun _ h => h) rfl rfl rfl (by first | (with_reducible rfl) | (with_reducible assumption) | (with_reducible exact Bool.not_true) | (with_reducible exact Bool.not_false)) (by exact Stab.fieldZ rfl (tysOk.get rfl) rfl rfl (tysOk.get rfl) rfl) rfl rfl ?_)); ((refine TrA.takeg 29 (by kernel_rfl) rfl (by kernel_rfl) (by first | exact fun _ _ _ h => h | exact fun _ _ _ h => nomatch h.1) (by exact fun _ h => h) rfl rfl rfl (by first | (with_reducible rfl) | (with_reducible assumption) | (with_reducible exact Bool.not_true) | (with_reducible exact Bool.not_false)) (by exact Stab.fieldZ rfl (tysOk.get rfl) rfl rfl (tysOk.get rfl) rfl) rfl rfl ?_)); ((refine TrA.takeg 26 (by kernel_rfl) rfl (by kernel_rfl) (by first | exact fun _ _ _ h => h | exact fun _ _ _ h => nomatch h.1) (by exact fun _ h => h) rfl rfl rfl (by first | (with_reducible rfl) | (with_reducible assumption) | (with_reducible exact Bool.not_true) | (with_reducible exact Bool.not_false)) (by exact Stab.load rfl (tysOk.get rfl) rfl (by repeat (first | exact Has.here | apply Has.there)) rfl) rfl rfl ?_)); ((refine TrA.takeg 28 (by kernel_rfl) rfl (by kernel_rfl) (by first | exact fun _ _ _ h => h | exact fun _ _ _ h => nomatch h.1) (by exact fun _ h => h) rfl rfl rfl (by first | (with_reducible rfl) | (with_reducible assumption) | (with_reducible exact Bool.not_true) | (with_reducible exact Bool.not_false)) (by exact Stab.load rfl (tysOk.get rfl) rfl (by repeat (first | exact Has.here | apply Has.there)) rfl) rfl rfl ?_)); ((refine TrA.takeg 30 (by kernel_rfl) rfl (by kernel_rfl) (by first | exact fun _ _ _ h => h | exact fun _ _ _ h => nomatch h.1) (by exact fun _ h => h) rfl rfl rfl (by first | (with_reducible rfl) | (with_reducible assumption) | (with_reducible exact Bool.not_true) | (with_reducible exact Bool.not_false)) (by exact Stab.load rfl (tysOk.get rfl) rfl (by repeat (first | exact Has.here | apply Has.there)) rfl) rfl rfl ?_)); ((refine TrA.takeg 31 (by kernel_rfl) rfl (by kernel_rfl) (by first | exact fun _ _ _ h => h | exact fun _ _ _ h => nomatch h.1) (by exact fun _ h => h) rfl rfl rfl (by first | (with_reducible rfl) | (with_reducible assumption) | (with_reducible exact Bool.not_true) | (with_reducible exact Bool.not_false)) (by first | exact Stab.len rfl (tysOk.get rfl) rfl | exact Stab.lensL rfl (tysOk.get rfl) rfl | exact Stab.lens rfl (tysOk.get rfl) rfl) rfl rfl ?_)); ((refine TrA.takeg 32 (by kernel_rfl) rfl (by kernel_rfl) (by first | exact fun _ _ _ h => h | exact fun _ _ _ h => nomatch h.1) (by exact fun _ h => h) rfl rfl rfl (by first | (with_reducible rfl) | (with_reducible assumption) | (with_reducible exact Bool.not_true) | (with_reducible exact Bool.not_false)) (by exact Stab.slice_h rfl rfl (tysOk.get rfl) rfl (tysOk.get rfl) (by omega) (by omega)) rfl rfl ?_)))
    rw [Int.toNat_natCast]
    ((refine TrA.eff 33 rfl (by kernel_rfl) (by first | exact .inl rfl | exact .inr ⟨_, _, _, rfl, rfl, rfl⟩) ?_))
    refine Exec.call0 rfl hsame rfl ?_
    rintro _ _ _ ⟨rfl, rfl⟩
    refine ⟨Mem.le.refl _, (by exact fun _ h => h), ?_⟩
    (((refine TrA.takeg 34 (by kernel_rfl) rfl (by kernel_rfl) (by first | exact fun _ _ _ h => h | exact fun _ _ _ h => nomatch h.1) (by exact fun _ h => h) rfl rfl rfl (by first | (with_reducible rfl) | (with_reducible assumption) | (with_reducible exact Bool.not_true) | (with_reducible exact Bool.not_false)) (by first | exact Stab.notw rfl | exact Stab.notd rfl | exact Stab.not rfl | exact Stab.neg rfl (by omega)) rfl rfl ?_)); (refine TrA.take 35 (by kernel_rfl) rfl (by kernel_rfl) (by first | exact fun _ _ _ h => h | exact fun _ _ _ h => nomatch h.1) (by exact fun _ h => h) rfl (by exact Stab.pick_f rfl (by first | (with_reducible rfl) | (with_reducible assumption) | (with_reducible exact Bool.not_true) | (with_reducible exact Bool.not_false)) rfl) rfl rfl ?_); (refine TrA.done (by kernel_rfl) ?_))
    repeat (first | ((with_reducible refine Tr.step rfl ?_); (first | ((with_reducible refine Knd.assign ?_); (refine Exec.stab rfl (Stab.assign rfl) rfl ?_)) | ((with_reducible refine Knd.load ?_); (first | (refine Exec.stab rfl (Stab.load rfl (tysOk.get rfl) rfl (by repeat (first | exact Has.here | apply Has.there)) rfl) rfl ?_) | (refine Exec.stab rfl (Stab.loadW rfl (tysOk.get rfl) rfl (by repeat (first | exact Has.here | apply Has.there)) rfl) rfl ?_))) | ((with_reducible refine Knd.fieldAddr ?_); ((refine Exec.stab rfl (Stab.fieldZ rfl (tysOk.get rfl) rfl rfl (tysOk.get rfl) rfl) rfl ?_))))) | (with_reducible refine Tr.next ?_) | (with_reducible refine Tr.region ?_) | (with_reducible refine Tr.nil ?_) | (with_reducible refine Tr.skip ?_) | (with_reducible refine Tr.in_normal ?_) | (refine Tr.cond_bf rfl (by first | (with_reducible rfl) | (with_reducible assumption) | (with_reducible exact Bool.not_true) | (with_reducible exact Bool.not_false)) ?_))
    ((refine Tr.step rfl ?_)); refine Exec.call0 rfl (fx_restart M7 _ _ (hd2.mono hm7)) rfl ?_
    rintro _ _ _ ⟨⟨A13, c13, B13, k13, rfl, hd4⟩, rfl⟩
    dsimp only at hd4 ⊢
    rw [y1] at hd4 ⊢
    repeat (first | ((with_reducible refine Tr.step rfl ?_); (first | ((with_reducible refine Knd.move ?_); (refine Exec.stab rfl (Stab.move rfl) rfl ?_)) | ((with_reducible refine Knd.binOp ?_); ((refine Exec.stab rfl (Stab.addi rfl rfl (by omega)) rfl ?_))) | ((with_reducible refine Knd.store ?_); ((refine Exec.storeW rfl rfl (tysOk.get rfl) (by repeat (first | exact Upd.here | apply Upd.there)) rfl rfl (by repeat (first | exact AllOne.nil | refine AllOne.cons (by first | rfl | assumption) ?_)) ?_))))) | (with_reducible refine Tr.next ?_) | (with_reducible refine Tr.region ?_) | (with_reducible refine Tr.nil ?_) | (with_reducible refine Tr.in_normal ?_))
    refine Tr.again ⟨i + 1, M7, D', (recs D).length + m, A13, c13, B13, k13, A12, c12⟩ ⟨by simp only; omega, hm3.trans (hm4.trans (hm5.trans (hm6.trans hm7))), y1, y2, by simp only; omega, hl'.symm, hd4, by simp only; rw [← hl']; exact hr6⟩ (by simp only; omega) (holds_sub (by repeat (first | exact SubFr.nil | refine SubFr.cons rfl ?_)) (by repeat (first | exact DropL.refl | apply DropL.skip)))
end Go.Proofs.Ytkbggengagockaa
/-
  The journal: how the arguments of the laws read, where what they read is bounded.
  Conditions: none.
-/
namespace Go.Proofs.Ytkbggengagockaa
open Go Bf
open Go.ChangeShapes Go.WideShapes Go.ChangeAt Go.RowKit
section
variable {H : Type}
theorem bulk_one (d : DataW H) : 1 ≤ Rows.uptoBulk d := by
  cases d with
  | lit l => cases l <;> simp [Rows.uptoBulk]
  | nil => simp [Rows.uptoBulk]
  | ptr d => simp [Rows.uptoBulk]
  | slice elems spare => simp [Rows.uptoBulk]
  | agg parts => simp [Rows.uptoBulk]
  | iface t d => simp [Rows.uptoBulk]
  | map entries => simp [Rows.uptoBulk]
  | held h => simp [Rows.uptoBulk]
theorem bulk_part {d : DataW H} : ∀ {l : List (DataW H)}, d ∈ l → Rows.uptoBulk d ≤ Rows.uptoBulkAll l
  | x :: r, h => by
    simp only [Rows.uptoBulkAll]
    rcases List.mem_cons.1 h with e | e
    · subst e; omega
    · have := bulk_part e; omega
theorem bulk_len : ∀ (l : List (DataW H)), l.length ≤ Rows.uptoBulkAll l
  | [] => Nat.zero_le _
  | x :: r => by
    have h1 := bulk_one x
    have h2 := bulk_len r
    simp only [Rows.uptoBulkAll, List.length_cons]; omega
theorem bulk_sum {α : Type} (m : α → Nat) : ∀ (xs : List α) (es : List (DataW H)), es.length = xs.length → (∀ (i : Nat) z d, xs[i]? = some z → es[i]? = some d → m z ≤ Rows.uptoBulk d) → (xs.map m).sum ≤ Rows.uptoBulkAll es
  | [], _, _, _ => Nat.zero_le _
  | x :: xs, [], h, _ => by cases h
  | x :: xs, e :: es, h, hm => by
    have h0 := hm 0 x e rfl rfl
    have ih := bulk_sum m xs es (by simpa using h) fun i z d hz hd => hm (i + 1) z d (by simpa using hz) (by simpa using hd)
    simp only [List.map_cons, List.sum_cons, Rows.uptoBulkAll]
    omega
theorem small_le {ds : List (DataW H)} (h : Rows.uptoSmall H ds = true) {j : Nat} {d : DataW H} (hd : ds[j]? = some d) : Rows.uptoBulk d ≤ 1048576 := by
  have h1 : Rows.uptoBulkAll ds ≤ 1048576 := of_decide_eq_true h
  have h2 := bulk_part (List.mem_of_getElem? hd)
  omega
end
theorem ownT' : ownKnob Try.prog.godebug = none := by kernel_rfl
theorem laidT' : laidOutB Try.prog = true := by kernel_rfl
theorem u3 : Try.prog.underlying 3 = some (.int .i64) := (tysOk.get (t := 3) rfl).1
theorem u5 : Try.prog.underlying 5 = some (.int .u8) := (tysOk.get (t := 5) rfl).1
theorem u22 : Try.prog.underlying 22 = some (.slice 35) := (tysOk.get (t := 22) rfl).1
theorem u35 : Try.prog.underlying 35 = some (.slice 5) := (tysOk.get (t := 35) rfl).1
theorem c3 : Try.prog.cellsOf 3 = 1 := by kernel_rfl
theorem c5 : Try.prog.cellsOf 5 = 1 := by kernel_rfl
theorem c22 : Try.prog.cellsOf 22 = 1 := by kernel_rfl
theorem c29 : Try.prog.cellsOf 29 = 3 := by kernel_rfl
theorem c35 : Try.prog.cellsOf 35 = 1 := by kernel_rfl
theorem len1 {l : List Value} (h : l.length = 1) : ∃ a, l = [a] := by
  match l, h with
  | [a], _ => exact ⟨a, rfl⟩
theorem len2 {l : List Value} (h : l.length = 2) : ∃ a b, l = [a, b] := by
  match l, h with
  | [a, b], _ => exact ⟨a, b, rfl⟩
theorem len3 {l : List Value} (h : l.length = 3) : ∃ a b c, l = [a, b, c] := by
  match l, h with
  | [a, b, c], _ => exact ⟨a, b, c, rfl⟩
theorem len4 {l : List Value} (h : l.length = 4) : ∃ a b c d, l = [a, b, c, d] := by
  match l, h with
  | [a, b, c, d], _ => exact ⟨a, b, c, d, rfl⟩
section
variable {H : Type} {enc : TypeId × Value → H} {W : World} {base : Nat} {v : Value} {w : World} {sp : Nat → Bool} {held : Bool}
theorem open_recs {fuel : Nat} {v : Value} {x : DataW H × List MemPlace} (h : DataW.trod enc Try.prog w 0 sp held fuel 22 [v] = some x) : ∃ (l : List (List UInt8)) (A : Option Addr) (c : Nat), v = .slice A l.length c ∧ SlOf 1 RSec (Bf.hp w) (.slice A l.length c) l ∧ tot l ≤ Rows.uptoBulk x.1 := by
  obtain ⟨l, A, c, rfl, hs, he⟩ := read_slOfD (R := RSec) (fun b => 1 + b.length) Rows.uptoBulk u22 c35 (by omega) (fun f cs y _ hl hy => by
    obtain ⟨u, rfl⟩ := len1 hl
    obtain ⟨bs, A, c, rfl, hb, hbs⟩ := read_bytesD u35 u5 c5 hy
    refine ⟨by intro u hu; simp at hu; subst hu; rfl, bs, ⟨A, c, rfl, hb⟩, ?_⟩
    rcases hbs with rfl | ⟨es, spare, e1, e2⟩
    · exact bulk_one _
    · rw [e1, Rows.uptoBulk]
      have := bulk_len es
      omega) h
  refine ⟨l, A, c, rfl, hs, ?_⟩
  rcases he with rfl | ⟨es, spare, e1, e2, e3⟩
  · exact Nat.zero_le _
  · rw [e1, Rows.uptoBulk]
    have := bulk_sum (fun b : List UInt8 => 1 + b.length) l es e2 e3
    show (l.map fun b => 1 + b.length).sum ≤ _
    omega
theorem open_jr {cs : List Value} {fuel : Nat} {x : DataW H × List MemPlace} (h : DataW.trod enc Try.prog w 0 sp held fuel 29 cs = some x) : ∃ j : Jr, RJr (Bf.hp w) (.agg cs.toArray) j ∧ tot j.rcs ≤ Rows.uptoBulk x.1 := by
  obtain ⟨hl, f, parts, -, hx, hf⟩ := read_structD Try.underlying29 h
  rw [c29] at hl
  obtain ⟨a, b, c, rfl⟩ := len3 hl
  obtain ⟨y0, -, h0⟩ : ∃ y, parts[0]? = some y.1 ∧ DataW.trod enc Try.prog w 0 sp held f 3 (([a, b, c].drop 0).take (Try.prog.cellsOf 3)) = some y := hf 0 _ rfl
  rw [c3] at h0
  obtain ⟨y1, -, h1⟩ : ∃ y, parts[1]? = some y.1 ∧ DataW.trod enc Try.prog w 0 sp held f 3 (([a, b, c].drop 1).take (Try.prog.cellsOf 3)) = some y := hf 1 _ rfl
  rw [c3] at h1
  obtain ⟨y2, p2, h2⟩ : ∃ y, parts[2]? = some y.1 ∧ DataW.trod enc Try.prog w 0 sp held f 22 (([a, b, c].drop 2).take (Try.prog.cellsOf 22)) = some y := hf 2 _ rfl
  rw [c22] at h2
  obtain ⟨n, e0, -⟩ := read_int u3 h0
  obtain ⟨m, e1, -⟩ := read_int u3 h1
  cases e0
  cases e1
  obtain ⟨l, A, k, rfl, hs, ht⟩ := open_recs h2
  refine ⟨⟨n, m, l⟩, ⟨A, k, rfl, hs⟩, ?_⟩
  have := bulk_part (List.mem_of_getElem? p2)
  rw [hx, Rows.uptoBulk]
  show tot l ≤ _
  omega
theorem arg_jr {d : DataW H} (h : ArgD enc Try.prog W base 29 v d) : ∃ j : Jr, RJr (Bf.hp W) v j ∧ tot j.rcs ≤ Rows.uptoBulk d := by
  obtain ⟨k0, f0, p, g0⟩ := h
  unfold Value.okWide at k0
  rw [Try.underlying29] at k0
  obtain ⟨cs, rfl, -, -⟩ := k0
  obtain ⟨j, hj, ht⟩ := open_jr g0
  exact ⟨j, by simpa [Value.cells] using hj, ht⟩
theorem arg_bytes {d : DataW H} (h : ArgD enc Try.prog W base 35 v d) : ∃ (bs : List UInt8) (A : Option Addr) (c : Nat), v = .slice A bs.length c ∧ BSl (Bf.hp W) (.slice A bs.length c) bs := by
  obtain ⟨k0, f0, p, g0⟩ := h
  obtain ⟨A, len, cap, rfl⟩ := okWide_slice u35 k0
  obtain ⟨bs, A', c', e, hb, -⟩ := read_bytesD u35 u5 c5 (by simpa [Value.cells] using g0)
  exact ⟨bs, A', c', e, hb⟩
end
end Go.Proofs.Ytkbggengagockaa
/-
  The journal: how a list of records as an argument reads.
  Conditions: none.
-/
namespace Go.Proofs.Ytkbggengagockaa
open Go Bf
open Go.ChangeShapes Go.WideShapes Go.ChangeAt Go.RowKit
section
variable {H : Type} {enc : TypeId × Value → H} {W : World} {base : Nat} {v : Value}
theorem arg_recs {d : DataW H} (h : ArgD enc Try.prog W base 22 v d) : ∃ (l : List (List UInt8)) (A : Option Addr) (c : Nat), v = .slice A l.length c ∧ SlOf 1 RSec (Bf.hp W) (.slice A l.length c) l ∧ tot l ≤ Rows.uptoBulk d := by
  obtain ⟨k0, f0, p, g0⟩ := h
  obtain ⟨A, len, cap, rfl⟩ := okWide_slice u22 k0
  obtain ⟨l, A', c', e, hs, ht⟩ := open_recs (by simpa [Value.cells] using g0)
  exact ⟨l, A', c', e, hs, ht⟩
theorem small_two {ds : List (DataW H)} (h : Rows.uptoSmall H ds = true) {a b : DataW H} (ha : ds[0]? = some a) (hb : ds[1]? = some b) : Rows.uptoBulk a + Rows.uptoBulk b ≤ 1048576 := by
  have h1 : Rows.uptoBulkAll ds ≤ 1048576 := of_decide_eq_true h
  match ds, ha, hb with
  | x :: y :: r, ha, hb =>
    cases ha
    cases hb
    simp only [Rows.uptoBulkAll] at h1
    omega
end
end Go.Proofs.Ytkbggengagockaa
/-
  The journal: how numbers as arguments read.
  Conditions: none.
-/
namespace Go.Proofs.Ytkbggengagockaa
open Go Bf
open Go.ChangeShapes Go.WideShapes Go.ChangeAt Go.RowKit
section
variable {H : Type} {enc : TypeId × Value → H} {W : World} {base : Nat} {v : Value}
theorem read_u8 {fuel : Nat} {c : Value} {y : DataW H × List MemPlace} {sp : Nat → Bool} {held : Bool} {w : World} (g0 : DataW.trod enc Try.prog w 0 sp held fuel 5 [c] = some y) : ∃ a : UInt8, c = .int .u8 (a.toNat : Int) := by
  obtain ⟨m, e, hw⟩ := read_int u5 g0
  cases e
  have hmin : IntKind.u8.min = 0 := by decide
  have hmax : IntKind.u8.max = 255 := by decide
  have : 0 ≤ m ∧ m ≤ 255 := by simpa [Lit.wf, hmin, hmax] using hw
  refine ⟨UInt8.ofNat m.toNat, ?_⟩
  have e : ((UInt8.ofNat m.toNat).toNat : Int) = m := by
    simp [UInt8.toNat_ofNat']
    omega
  rw [e]
theorem argd_int {d : DataW H} (h : ArgD enc Try.prog W base 3 v d) : ∃ n : Int, v = .int .i64 n := by
  obtain ⟨k0, f0, p, g0⟩ := h
  obtain ⟨n, rfl⟩ := okWide_int u3 k0
  exact ⟨n, rfl⟩
theorem argd_u8 {d : DataW H} (h : ArgD enc Try.prog W base 5 v d) : ∃ a : UInt8, v = .int .u8 (a.toNat : Int) := by
  obtain ⟨k0, f0, p, g0⟩ := h
  obtain ⟨n, rfl⟩ := okWide_int u5 k0
  exact read_u8 (by simpa [Value.cells] using g0)
end
end Go.Proofs.Ytkbggengagockaa
/-
  The journal: how a list of crashes as an argument reads.
  Conditions: none.
-/
namespace Go.Proofs.Ytkbggengagockaa
open Go Bf
open Go.ChangeShapes Go.WideShapes Go.ChangeAt Go.RowKit
theorem u53 : Try.prog.underlying 53 = some (.slice 55) := (tysOk.get (t := 53) rfl).1
theorem ub4 : Try.prog.underlying 4 = some .bool := (tysOk.get (t := 4) rfl).1
theorem cb4 : Try.prog.cellsOf 4 = 1 := by kernel_rfl
theorem c55 : Try.prog.cellsOf 55 = 3 := by kernel_rfl
section
variable {H : Type} {enc : TypeId × Value → H} {W : World} {base : Nat} {v : Value} {w : World} {sp : Nat → Bool} {held : Bool}
theorem open_crs1 {cs : List Value} {fuel : Nat} {x : DataW H × List MemPlace} (h : DataW.trod enc Try.prog w 0 sp held fuel 55 cs = some x) (hl : cs.length = 3) : (∀ u ∈ cs, u.oneCell' = true) ∧ ∃ j : Crs, RCrs (Bf.hp w) cs j ∧ tot j.rcs ≤ Rows.uptoBulk x.1 := by
  obtain ⟨-, f, parts, -, hx, hf⟩ := read_structD Try.underlying55 h
  obtain ⟨a, b, c, rfl⟩ := len3 hl
  obtain ⟨y0, p0, h0⟩ : ∃ y, parts[0]? = some y.1 ∧ DataW.trod enc Try.prog w 0 sp held f 22 (([a, b, c].drop 0).take (Try.prog.cellsOf 22)) = some y := hf 0 _ rfl
  rw [c22] at h0
  obtain ⟨y1, -, h1⟩ : ∃ y, parts[1]? = some y.1 ∧ DataW.trod enc Try.prog w 0 sp held f 4 (([a, b, c].drop 1).take (Try.prog.cellsOf 4)) = some y := hf 1 _ rfl
  rw [cb4] at h1
  obtain ⟨y2, -, h2⟩ : ∃ y, parts[2]? = some y.1 ∧ DataW.trod enc Try.prog w 0 sp held f 5 (([a, b, c].drop 2).take (Try.prog.cellsOf 5)) = some y := hf 2 _ rfl
  rw [c5] at h2
  obtain ⟨q, e1⟩ := read_bool ub4 h1
  cases e1
  obtain ⟨n, rfl⟩ := read_u8 h2
  obtain ⟨l, A, k, rfl, hs, ht⟩ := open_recs h0
  refine ⟨by intro u hu; simp at hu; rcases hu with rfl | rfl | rfl <;> rfl, ⟨l, q, n⟩, ⟨A, k, rfl, hs⟩, ?_⟩
  have := bulk_part (List.mem_of_getElem? p0)
  rw [hx, Rows.uptoBulk]
  show tot l ≤ _
  omega
theorem arg_crs {d : DataW H} (h : ArgD enc Try.prog W base 53 v d) : ∃ (l : List Crs) (A : Option Addr) (c : Nat), v = .slice A l.length c ∧ SlOf 3 RCrs (Bf.hp W) (.slice A l.length c) l ∧ ∀ x ∈ l, tot x.rcs ≤ Rows.uptoBulk d := by
  obtain ⟨k0, f0, p, g0⟩ := h
  obtain ⟨A, len, cap, rfl⟩ := okWide_slice u53 k0
  obtain ⟨l, A', c', e, hs, he⟩ := read_slOfD (R := RCrs) (fun b => tot b.rcs) Rows.uptoBulk u53 c55 (by omega) (fun f cs y _ hl hy => by
    obtain ⟨h1, j, h2, h3⟩ := open_crs1 hy hl
    exact ⟨h1, j, h2, h3⟩) (by simpa [Value.cells] using g0)
  refine ⟨l, A', c', e, hs, fun x hx => ?_⟩
  rcases he with rfl | ⟨es, spare, e1, e2, e3⟩
  · cases hx
  · obtain ⟨i, hi, rfl⟩ := List.getElem_of_mem hx
    have h1 := e3 i _ _ (List.getElem?_eq_getElem hi) (List.getElem?_eq_getElem (by omega))
    have h2 := bulk_part (List.getElem_mem (l := es) (n := i) (by omega))
    dsimp only at e1
    rw [e1, Rows.uptoBulk]
    omega
end
end Go.Proofs.Ytkbggengagockaa
/-
  The journal: the row of JournalSurvives.
  Conditions: what is read is of bulk at most 1048576 (the second form).
-/
namespace Go.Proofs.Ytkbggengagockaa
open Go Bf
open Go.ChangeShapes Go.WideShapes Go.ChangeAt Go.RowKit
set_option maxRecDepth 100000 in
theorem survives_lifted (os : Os) (started : os.Started) (H : Type) (enc : TypeId × Value → H) (F : Stop.Interp) :
    ReturnsInHanded {} Try.checked os 9 .any ((Rows.OpenSpec.upto Rows.journalSurvivesSpec).pre6 enc Try.prog Try.f9 Rows.journalSurvivesUptoRow.domain false) (((Rows.OpenSpec.upto Rows.journalSurvivesSpec).at F).post enc Try.prog Try.f9 false true false false) :=
  lift_cond (C := Try.checked) (s := Rows.journalSurvivesSpec) (so := Rows.OpenSpec.upto Rows.journalSurvivesSpec) (kc := Rows.uptoSmall) (ts := [5, 53]) (tb := 4) started rfl rfl rfl ownT' (by kernel_rfl) Try.func9
    (OpenSpec.witness (enc := enc) (C := Try.checked) (s := Rows.OpenSpec.upto Rows.journalSurvivesSpec) (k := Rows.uptoSmall) rfl false ⟨#[], #[.int .u8 0, .slice none 0 0], []⟩ 8 (by kernel_rfl) (by kernel_rfl) (by kernel_rfl)
      (x := ([.lit (.int .u8 0), .nil], [], [])) (by kernel_rfl) rfl (by kernel_rfl))
    (by rw [Try.params9]) laidT' (by kernel_rfl) rfl (fun ds h => match ds, h with | [_, _], _ => rfl) rfl Try.underlying4
    (fun W base vs ds hl hk ha => by
      obtain ⟨v0, v1, rfl⟩ := len2 hl
      obtain ⟨d0, e0, g0⟩ := ha 0 5 v0 rfl rfl
      obtain ⟨n0, rfl⟩ := argd_u8 g0
      obtain ⟨aD, a1, a2⟩ := ha 1 53 v1 rfl rfl
      obtain ⟨a, aA, ac, rfl, hra, ta⟩ := arg_crs a2
      have hsm := small_le hk a1
      exact survives_fn _ n0 aA ac a hra (fun x hx => by have := ta x hx; omega))
theorem journalSurvives_holds : Rows.JournalSurvivesUptoSaid :=
  OpenClaim.holds_of_cond 9 Try.f9 rfl rfl rfl rfl rfl rfl rfl ⟨rfl, rfl, rfl, rfl, rfl⟩ rfl rfl rfl rfl rfl (by kernel_rfl) Try.func9 (by kernel_rfl)
    (of_decide_eq_true (by kernel_rfl)) (by unfold Func.isWrapper; first | (rw [if_pos (by decide +kernel)]; kernel_rfl) | (rw [if_neg (by decide +kernel)]; exact ⟨rfl, rfl⟩))
    (fun os started H enc _ F => survives_lifted os started H enc F)
end Go.Proofs.Ytkbggengagockaa
