/-
  The digest: padding; the contracts of Clone and Sum.
  Conditions: none.
-/
import Derived.Test.YtoaepelmhmddmaaDoorG3
import Derived.Test.YtoaepelmhmddmaaDoorBfFn
namespace Go.Proofs.YtoaepelmhmddmaaDoor
open Go Bf
attribute [local irreducible] Tr Exec Stab HasTy Go.Addr.add IntKind.wrap
/-- a slice of bytes that may grow, as a result -/
def OwnB (bs : List UInt8) (r : Value) (A' : List Res) : Prop := ∃ A c, r = .slice A bs.length c ∧ c ≤ 9223372036854775807 ∧ A' = [ownS 5 1 A bs.length c (byteV bs)]
def be8 (m : Nat) (i : Nat) : List UInt8 := (List.range i).map fun j => UInt8.ofNat (m / 2 ^ (56 - 8 * j))
def padK (n : Nat) : Nat := (119 - n % 64) % 64
def pad1 (bs : List UInt8) (j : Nat) : List UInt8 := bs ++ 128 :: List.replicate j 0
/-- the bytes with their end -/
def padF (bs : List UInt8) : List UInt8 := pad1 bs (padK bs.length) ++ be8 (8 * bs.length) 8
theorem be8_length (m i : Nat) : (be8 m i).length = i := by simp [be8]
theorem be8_succ (m i : Nat) : be8 m (i + 1) = be8 m i ++ [UInt8.ofNat (m / 2 ^ (56 - 8 * i))] := by simp [be8, List.range_succ]
theorem pad1_length (bs : List UInt8) (j : Nat) : (pad1 bs j).length = bs.length + 1 + j := by simp [pad1]; omega
theorem pad1_succ (bs : List UInt8) (j : Nat) : pad1 bs (j + 1) = pad1 bs j ++ [0] := by simp [pad1, List.replicate_succ']
theorem padF_length (bs : List UInt8) : (padF bs).length = bs.length + 9 + padK bs.length := by simp [padF, pad1_length, be8_length]; omega
theorem padF_mod (bs : List UInt8) : (padF bs).length % 64 = 0 := by rw [padF_length, padK]; omega
/-- the state after so many blocks -/
def blks (p : List UInt8) : Nat → List UInt32
  | 0 => Hw
  | n + 1 => blkF (blks p n) ((p.drop (64 * n)).take 64)
theorem blks_length (p : List UInt8) (n : Nat) : (blks p n).length = 8 := by
  induction n with
  | zero => rfl
  | succ n ih => exact blkF_length _ ih
def outB (st : List UInt32) (q : Nat) : UInt8 := ((st.getD (q / 4) 0) >>> UInt32.ofNat (24 - 8 * (q % 4))).toUInt8
def outF (st : List UInt32) : List UInt8 := (List.range 32).map (outB st)
def sumF (bs : List UInt8) : List UInt8 := outF (blks (padF bs) ((padF bs).length / 64))
theorem outF_length (st : List UInt32) : (outF st).length = 32 := by simp [outF]
theorem sumF_length (bs : List UInt8) : (sumF bs).length = 32 := outF_length _
theorem out_done {cur : List UInt8} {st : List UInt32} (hl : cur.length = 32) (h : ∀ q, q < 32 → cur.getD q 0 = outB st q) : cur = outF st := by
  apply List.ext_getElem
  · rw [hl, outF_length]
  · intro q h1 h2
    have := h q (by omega)
    rw [List.getD_eq_getElem?_getD, List.getElem?_eq_getElem h1] at this
    simpa [outF] using this
set_option maxHeartbeats 1000000 in
theorem clone_fn (M : Mem) (A : Option Addr) (c : Nat) (bs : List UInt8) (hb : BSl M (.slice A bs.length c) bs) (hl : bs.length ≤ 1000000000000) :
    Bf.Fn Tryd.prog 27 [.slice A bs.length c] M [] (fun r M' A' => M = M' ∧ OwnB bs r A') := by
  have hcap := hb.cap
  refine Fn.intro Tryd.func27 rfl rfl Tryd.ntmps27 rfl fun E F => ?_
  by_cases hA : A = none
  · have hnil : bs = [] := List.eq_nil_of_length_eq_zero (hcap.2.2.1 hA)
    subst hnil
    repeat (first | ((with_reducible refine Tr.step rfl ?_); (first | ((with_reducible refine Knd.move ?_); (refine Exec.stab rfl (Stab.move rfl) rfl ?_)) | ((with_reducible refine Knd.assign ?_); (refine Exec.stab rfl (Stab.assign rfl) rfl ?_)) | ((with_reducible refine Knd.binOp ?_); ((refine Exec.stab rfl (Stab.slnil rfl (tysOk.get rfl) rfl) rfl ?_))))) | (with_reducible refine Tr.next ?_) | (with_reducible refine Tr.seq ?_) | (with_reducible refine Tr.region ?_) | (with_reducible refine Tr.nil ?_) | (with_reducible refine Tr.ret ?_) | (with_reducible refine Tr.then_ret ?_) | (refine Tr.cond_t rfl (by first | (with_reducible assumption) | (with_reducible rfl) | (with_reducible exact (not_not_intro rfl)) | omega) ?_))
    refine Tr.own_nil 5 1 ?_
    refine Tr.doneA (A' := [ownS 5 1 none 0 0 []]) (by first | exact .inl rfl | exact .inr rfl) rfl (by repeat (first | exact RVs.nil | (apply RVs.cons; (exact RV.tmp rfl)))) (Mem.le.refl _) ⟨fun _ h => h, fun h => h⟩ ⟨rfl, none, 0, rfl, by omega, rfl⟩
  · repeat (first | ((with_reducible refine Tr.step rfl ?_); (first | ((with_reducible refine Knd.move ?_); (refine Exec.stab rfl (Stab.move rfl) rfl ?_)) | ((with_reducible refine Knd.assign ?_); (refine Exec.stab rfl (Stab.assign rfl) rfl ?_)) | ((with_reducible refine Knd.binOp ?_); ((refine Exec.stab rfl (Stab.slnil rfl (tysOk.get rfl) rfl) rfl ?_))) | ((with_reducible refine Knd.buildSlice ?_); (refine Exec.buildSlice (tysOk.get rfl) rfl (tysOk.get rfl) rfl rfl rfl rfl rfl (by repeat (exact BuildP.nil)) rfl (fun b => ?_))))) | (with_reducible refine Tr.next ?_) | (with_reducible refine Tr.seq ?_) | (with_reducible refine Tr.region ?_) | (with_reducible refine Tr.nil ?_) | (with_reducible refine Tr.skip ?_) | (refine Tr.cond_f rfl (by first | (with_reducible assumption) | (with_reducible rfl) | (with_reducible exact (not_not_intro rfl)) | omega) ?_))
    refine Tr.box_own 1 0 (by repeat (first | exact Upd.here | apply Upd.there)) rfl (by intro u hu; cases hu) (by simp [maxLen]) ?_
    ((refine Tr.step rfl ?_))
    refine Exec.append (news := byteV bs) rfl rfl (tysOk.get rfl) rfl (tysOk.get rfl) rfl rfl rfl rfl (by repeat (first | exact Del.here | apply Del.there)) (Src.row hcap.2.2.2) (by simp) (byteV_one _) (by omega) (by omega) rfl (fun A2 c2 hc2 => ?_)
    rw [List.nil_append, Nat.zero_add]
    repeat (first | ((with_reducible refine Tr.step rfl ?_); (((with_reducible refine Knd.assign ?_); (refine Exec.stab rfl (Stab.assign rfl) rfl ?_)))) | (with_reducible refine Tr.next ?_) | (with_reducible refine Tr.nil ?_) | (with_reducible refine Tr.ret ?_))
    refine Tr.doneA (A' := [ownS 5 1 A2 bs.length c2 (byteV bs)]) (by first | exact .inl rfl | exact .inr rfl) rfl (by repeat (first | exact RVs.nil | (apply RVs.cons; (exact RV.tmp rfl)))) (Mem.le.refl _) ⟨fun _ h => h, fun h => h⟩ ⟨rfl, A2, c2, rfl, hc2, rfl⟩
theorem be_byte (m k : Nat) : [Value.int .u8 (IntKind.u8.wrap ((m : Int) / 2 ^ k))] = byteV [UInt8.ofNat (m / 2 ^ k)] := by
  simp only [byteV, List.map_cons, List.map_nil]
  rw [IntKind.wrap_u8, UInt8.toNat_ofNat', Int.natCast_emod, Int.natCast_ediv, Int.natCast_pow]
  rfl
set_option maxHeartbeats 8000000 in
set_option maxRecDepth 20000 in
theorem sum_fn (M : Mem) (hK : At M ⟨0, 0, none⟩ (wV Kw)) (A : Option Addr) (c : Nat) (bs : List UInt8) (hb : BSl M (.slice A bs.length c) bs) (hl : bs.length ≤ 1000000000) :
    Fn0 Tryd.prog 12 [.slice A bs.length c] M (fun r M' => r = .agg (byteV (sumF bs)).toArray) := by
  have hpk : padK bs.length < 64 := by unfold padK; omega
  refine Fn.intro Tryd.func12 rfl rfl Tryd.ntmps12 rfl fun E F => ?_
  repeat (first | ((with_reducible refine Tr.step rfl ?_); (first | ((with_reducible refine Knd.move ?_); (refine Exec.stab rfl (Stab.move rfl) rfl ?_)) | ((with_reducible refine Knd.assign ?_); (refine Exec.stab rfl (Stab.assign rfl) rfl ?_)) | ((with_reducible refine Knd.box ?_); (first | (refine Exec.box rfl rfl (fun b => ?_)) | (refine Exec.box1 rfl (by first | rfl | assumption) rfl (fun b => ?_)))) | ((with_reducible refine Knd.alloc ?_); (first | (refine Exec.alloc (tysOk.get rfl) rfl rfl (fun b => ?_)) | (refine Exec.alloc1 (tysOk.get rfl) rfl rfl rfl (fun b => ?_)))) | ((with_reducible refine Knd.build ?_); ((refine Exec.stab rfl (Stab.buildA (tysOk.get rfl) rfl (tysOk.get rfl) rfl rfl (by repeat (first | exact BuildP.nil | ((apply BuildP.one); (rfl); (rfl); (first | rfl | assumption); (repeat (first | exact SetL.z | apply SetL.s)))))) rfl ?_))))) | (with_reducible refine Tr.next ?_) | (with_reducible refine Tr.seq ?_) | (with_reducible refine Tr.region ?_) | (with_reducible refine Tr.nil ?_))
  generalize hbs : b = bst
  rename_i b2
  refine Tr.cells (cs' := wV Hw) (by repeat (first | exact Upd.here | apply Upd.there)) (by kernel_rfl) ?_
  ((refine Tr.step rfl ?_))
  refine Exec.call (A := []) rfl (clone_fn M A c bs hb (by omega)) (List.Perm.refl _) rfl ?_
  rintro _ _ _ - ⟨rfl, A3, c3, rfl, hc3, rfl⟩
  repeat (((with_reducible refine Tr.step rfl ?_); (((with_reducible refine Knd.buildSlice ?_); (refine Exec.buildSlice (tysOk.get rfl) rfl (tysOk.get rfl) rfl rfl rfl rfl rfl (by repeat (first | exact BuildP.nil | ((apply BuildP.one); (rfl); (rfl); (first | rfl | assumption); (repeat (first | exact SetL.z | apply SetL.s))))) rfl (fun b => ?_))))))
  refine Tr.cells (cs' := byteV [128]) (by repeat (first | exact Upd.here | apply Upd.there)) rfl ?_
  ((refine Tr.step rfl ?_))
  refine Exec.append (news := byteV [128]) rfl rfl (tysOk.get rfl) rfl (tysOk.get rfl) rfl rfl rfl rfl (by repeat (first | exact Del.here | apply Del.there)) (Src.box (by repeat (first | exact Has.here | apply Has.there))) (by simp) (byteV_one _) (by omega) (by omega) rfl (fun A4 c4 hc4 => ?_)
  rw [← byteV_append, show bs ++ [128] = pad1 bs 0 from rfl, show bs.length + 1 = (pad1 bs 0).length by rw [pad1_length]]
  repeat (first | ((with_reducible refine Tr.step rfl ?_); (((with_reducible refine Knd.assign ?_); (refine Exec.stab rfl (Stab.assign rfl) rfl ?_)))) | (with_reducible refine Tr.next ?_) | (with_reducible refine Tr.seq ?_) | (with_reducible refine Tr.nil ?_) | (with_reducible refine Tr.block ?_))
  refine Tr.give (r := box _ 5 (byteV [128])) (by repeat (first | exact Del.here | apply Del.there)) ?_
  refine Tr.loop (α := Nat × Option Addr × Nat) (fun y => ⟨84, [(4, .slice y.2.1 (pad1 bs y.1).length y.2.2), (3, .pointer (some ⟨bst, 0, none⟩)), (2, .pointer (some ⟨b2, 0, none⟩)), (0, .slice A bs.length c)], [], M, ownS 5 1 y.2.1 (pad1 bs y.1).length y.2.2 (byteV (pad1 bs y.1)) :: box bst 52 (wV Hw) :: box b2 26 _ :: ([] ++ F)⟩)
    (fun y => y.1 ≤ padK bs.length ∧ y.2.2 ≤ 9223372036854775807) (fun y => padK bs.length - y.1) (0, A4, c4) ⟨Nat.zero_le _, hc4⟩ (holds_sub (by repeat (first | exact SubFr.nil | refine SubFr.cons rfl ?_)) (by repeat (first | exact DropL.refl | apply DropL.skip))) (fun y hy => ?_)
  obtain ⟨j, A5, c5⟩ := y
  obtain ⟨hj, hc5⟩ := hy
  simp only at hj hc5
  dsimp only
  have hpl := pad1_length bs j
  by_cases hlt : j < padK bs.length
  · have hne : ¬ ((pad1 bs j).length : Int) % 64 = 56 := by rw [hpl]; unfold padK at hlt; omega
    repeat (first | ((with_reducible refine Tr.step rfl ?_); (first | ((with_reducible refine Knd.move ?_); (refine Exec.stab rfl (Stab.move rfl) rfl ?_)) | ((with_reducible refine Knd.len ?_); ((refine Exec.stab rfl (Stab.len rfl (tysOk.get rfl) rfl) rfl ?_))) | ((with_reducible refine Knd.binOp ?_); (first | (refine Exec.stab rfl (Stab.int rfl rfl rfl) rfl ?_) | (refine Exec.stab rfl (Stab.remp rfl rfl (by omega) (by omega)) rfl ?_))) | ((with_reducible refine Knd.buildSlice ?_); (refine Exec.buildSlice (tysOk.get rfl) rfl (tysOk.get rfl) rfl rfl rfl rfl rfl (by repeat (first | exact BuildP.nil | ((apply BuildP.one); (rfl); (rfl); (first | rfl | assumption); (repeat (first | exact SetL.z | apply SetL.s))))) rfl (fun b => ?_))))) | (with_reducible refine Tr.next ?_) | (with_reducible refine Tr.seq ?_) | (with_reducible refine Tr.region ?_) | (with_reducible refine Tr.nil ?_) | (with_reducible refine Tr.skip ?_) | (with_reducible refine Tr.block ?_) | (refine Tr.cond_t rfl (by first | (with_reducible assumption) | (with_reducible rfl) | (with_reducible exact (not_not_intro rfl)) | omega) ?_))
    refine Tr.cells (cs' := byteV [0]) (by repeat (first | exact Upd.here | apply Upd.there)) rfl ?_
    ((refine Tr.step rfl ?_))
    refine Exec.append (news := byteV [0]) rfl rfl (tysOk.get rfl) rfl (tysOk.get rfl) rfl rfl rfl rfl (by repeat (first | exact Del.here | apply Del.there)) (Src.box (by repeat (first | exact Has.here | apply Has.there))) (by simp) (byteV_one _) (by omega) (by omega) rfl (fun A6 c6 hc6 => ?_)
    rw [← byteV_append, ← pad1_succ, show (pad1 bs j).length + 1 = (pad1 bs (j + 1)).length by rw [pad1_length, pad1_length]; omega]
    repeat (first | ((with_reducible refine Tr.step rfl ?_); (((with_reducible refine Knd.assign ?_); (refine Exec.stab rfl (Stab.assign rfl) rfl ?_)))) | (with_reducible refine Tr.next ?_) | (with_reducible refine Tr.nil ?_) | (with_reducible refine Tr.in_normal ?_))
    refine Tr.give (r := box _ 5 (byteV [0])) (by repeat (first | exact Del.here | apply Del.there)) ?_
    refine Tr.again (j + 1, A6, c6) ⟨by simp only; omega, hc6⟩ (by simp only; omega) (holds_sub (by repeat (first | exact SubFr.nil | refine SubFr.cons rfl ?_)) (by repeat (first | exact DropL.refl | apply DropL.skip)))
  have e : j = padK bs.length := by omega
  subst e
  have heq : ((pad1 bs (padK bs.length)).length : Int) % 64 = 56 := by rw [hpl]; unfold padK; omega
  have hm : 8 * (bs.length : Int) = ((8 * bs.length : Nat) : Int) := by omega
  repeat (first | ((with_reducible refine Tr.step rfl ?_); (first | ((with_reducible refine Knd.move ?_); (refine Exec.stab rfl (Stab.move rfl) rfl ?_)) | ((with_reducible refine Knd.assign ?_); (refine Exec.stab rfl (Stab.assign rfl) rfl ?_)) | ((with_reducible refine Knd.len ?_); ((refine Exec.stab rfl (Stab.len rfl (tysOk.get rfl) rfl) rfl ?_))) | ((with_reducible refine Knd.binOp ?_); (first | (refine Exec.stab rfl (Stab.mulu64 rfl rfl (by omega)) rfl ?_) | (refine Exec.stab rfl (Stab.int rfl rfl rfl) rfl ?_) | (refine Exec.stab rfl (Stab.remp rfl rfl (by omega) (by omega)) rfl ?_))) | ((with_reducible refine Knd.convert ?_); ((refine Exec.stab rfl (Stab.convu64 rfl (tysOk.get rfl) (tysOk.get rfl) rfl rfl (by omega)) rfl ?_))))) | (with_reducible refine Tr.next ?_) | (with_reducible refine Tr.seq ?_) | (with_reducible refine Tr.region ?_) | (with_reducible refine Tr.nil ?_) | (with_reducible refine Tr.block ?_) | (with_reducible refine Tr.exit ?_) | (with_reducible refine Tr.then_exit ?_) | ((with_reducible refine Tr.in_exit ?_ ?_); (exact rfl)) | (refine Tr.cond_f rfl (by first | (with_reducible assumption) | (with_reducible rfl) | (with_reducible exact (not_not_intro rfl)) | omega) ?_))
  rw [hm]
  have hw : ∃ ws : Nat → List UInt8, ∀ i, ws i = pad1 bs (padK bs.length) ++ be8 (8 * bs.length) i := ⟨_, fun _ => rfl⟩
  obtain ⟨ws, hws⟩ := hw
  have hwl : ∀ i, (ws i).length = (pad1 bs (padK bs.length)).length + i := fun i => by rw [hws, List.length_append, be8_length]
  have hw0 : pad1 bs (padK bs.length) = ws 0 := by rw [hws]; simp [be8]
  have hwp : (pad1 bs (padK bs.length)).length ≤ 1000000100 := by rw [hpl]; omega
  rw [hw0]
  refine Tr.loop (α := Nat × Option Addr × Nat) (fun y => ⟨84, [(29, .int .i64 y.1), (5, .int .u64 ((8 * bs.length : Nat) : Int)), (4, .slice y.2.1 (ws y.1).length y.2.2), (3, .pointer (some ⟨bst, 0, none⟩)), (2, .pointer (some ⟨b2, 0, none⟩))], [], M, ownS 5 1 y.2.1 (ws y.1).length y.2.2 (byteV (ws y.1)) :: box bst 52 (wV Hw) :: box b2 26 _ :: ([] ++ F)⟩)
    (fun y => y.1 ≤ 8 ∧ y.2.2 ≤ 9223372036854775807) (fun y => 8 - y.1) (0, A5, c5) ⟨by simp, hc5⟩ (holds_sub (by repeat (first | exact SubFr.nil | refine SubFr.cons rfl ?_)) (by repeat (first | exact DropL.refl | apply DropL.skip))) (fun y hy => ?_)
  clear hj hc5 hlt
  obtain ⟨i, A5, c5⟩ := y
  obtain ⟨hi, hc5⟩ := hy
  simp only at hi hc5
  dsimp only
  by_cases hlt : i < 8
  · have e56 : 56 - 8 * (i : Int) = ((56 - 8 * i : Nat) : Int) := by omega
    have hwi := hwl i
    repeat (first | ((with_reducible refine Tr.step rfl ?_); (first | ((with_reducible refine Knd.move ?_); (refine Exec.stab rfl (Stab.move rfl) rfl ?_)) | ((with_reducible refine Knd.assign ?_); (refine Exec.stab rfl (Stab.assign rfl) rfl ?_)) | ((with_reducible refine Knd.binOp ?_); (first | (refine Exec.stab rfl (Stab.subi rfl rfl (by omega)) rfl ?_) | (refine Exec.stab rfl (Stab.muli rfl rfl (by omega)) rfl ?_) | (refine Exec.stab rfl (Stab.int rfl rfl rfl) rfl ?_))))) | (with_reducible refine Tr.next ?_) | (with_reducible refine Tr.seq ?_) | (with_reducible refine Tr.region ?_) | (with_reducible refine Tr.nil ?_) | (with_reducible refine Tr.skip ?_) | (with_reducible refine Tr.block ?_) | (refine Tr.cond_t rfl (by first | (with_reducible assumption) | (with_reducible rfl) | (with_reducible exact (not_not_intro rfl)) | omega) ?_))
    rw [e56]
    refine Tr.step rfl ?_
    refine Exec.stab rfl (Stab.shrc (56 - 8 * i) (p := 2 ^ (56 - 8 * i)) rfl rfl ((by rw [Nat.ble_eq]; show _ ≤ 64; omega)) rfl) rfl ?_
    repeat (((with_reducible refine Tr.step rfl ?_); (first | ((with_reducible refine Knd.convert ?_); ((refine Exec.stab rfl (Stab.conv rfl (tysOk.get rfl) (tysOk.get rfl) rfl rfl) rfl ?_))) | ((with_reducible refine Knd.buildSlice ?_); (refine Exec.buildSlice (tysOk.get rfl) rfl (tysOk.get rfl) rfl rfl rfl rfl rfl (by repeat (first | exact BuildP.nil | ((apply BuildP.one); (rfl); (rfl); (first | rfl | assumption); (repeat (first | exact SetL.z | apply SetL.s))))) rfl (fun b => ?_))))))
    refine Tr.cells (cs' := byteV [UInt8.ofNat (8 * bs.length / 2 ^ (56 - 8 * i))]) (by repeat (first | exact Upd.here | apply Upd.there)) (be_byte _ _) ?_
    ((refine Tr.step rfl ?_))
    refine Exec.append (news := byteV [UInt8.ofNat (8 * bs.length / 2 ^ (56 - 8 * i))]) rfl rfl (tysOk.get rfl) rfl (tysOk.get rfl) rfl rfl rfl rfl (by repeat (first | exact Del.here | apply Del.there)) (Src.box (by repeat (first | exact Has.here | apply Has.there))) (by simp) (byteV_one _) (by omega) (by omega) rfl (fun A6 c6 hc6 => ?_)
    rw [← byteV_append, show ws i ++ [UInt8.ofNat (8 * bs.length / 2 ^ (56 - 8 * i))] = ws (i + 1) by rw [hws, hws, be8_succ, List.append_assoc], show (ws i).length + 1 = (ws (i + 1)).length by rw [hwl, hwl]; omega]
    repeat (first | ((with_reducible refine Tr.step rfl ?_); (first | ((with_reducible refine Knd.move ?_); (refine Exec.stab rfl (Stab.move rfl) rfl ?_)) | ((with_reducible refine Knd.assign ?_); (refine Exec.stab rfl (Stab.assign rfl) rfl ?_)) | ((with_reducible refine Knd.binOp ?_); ((refine Exec.stab rfl (Stab.addi rfl rfl (by omega)) rfl ?_))))) | (with_reducible refine Tr.next ?_) | (with_reducible refine Tr.region ?_) | (with_reducible refine Tr.nil ?_) | (with_reducible refine Tr.in_normal ?_))
    refine Tr.give (r := box _ 5 (byteV [_])) (by repeat (first | exact Del.here | apply Del.there)) ?_
    refine Tr.again (i + 1, A6, c6) ⟨by simp only; omega, hc6⟩ (by simp only; omega) (holds_sub (by repeat (first | exact SubFr.nil | refine SubFr.cons rfl ?_)) (by repeat (first | exact DropL.refl | apply DropL.skip)))
  have e : i = 8 := by omega
  subst e
  have hp : ws 8 = padF bs := hws 8
  have hmod := padF_mod bs
  have hpl2 := padF_length bs
  rw [hp]
  refine Tr.publish (r := ownS 5 1 _ _ _ _) (by repeat (first | exact Del.here | apply Del.there)) (fun M1 hm1 hok => ?_)
  have hbp := BSl.ofOwn hok rfl hc5
  have hcap := hbp.cap
  have hK1 := hK.mono hm1
  clear hws hwl hw0 hp hwp heq hpl
  generalize hP : padF bs = P at hbp hcap hmod hpl2 ⊢
  repeat (first | ((with_reducible refine Tr.step rfl ?_); (first | ((with_reducible refine Knd.move ?_); (refine Exec.stab rfl (Stab.move rfl) rfl ?_)) | ((with_reducible refine Knd.assign ?_); (refine Exec.stab rfl (Stab.assign rfl) rfl ?_)) | ((with_reducible refine Knd.len ?_); ((refine Exec.stab rfl (Stab.len rfl (tysOk.get rfl) rfl) rfl ?_))) | ((with_reducible refine Knd.makeFunc ?_); (refine Exec.stab rfl (Stab.makeFunc rfl rfl) rfl ?_)) | ((with_reducible refine Knd.binOp ?_); (first | (refine Exec.stab rfl (Stab.int rfl rfl rfl) rfl ?_) | (refine Exec.stab rfl (Stab.quoi rfl rfl (by omega) (by omega) (by omega)) rfl ?_))))) | (with_reducible refine Tr.next ?_) | (with_reducible refine Tr.seq ?_) | (with_reducible refine Tr.region ?_) | (with_reducible refine Tr.nil ?_) | (with_reducible refine Tr.block ?_) | (with_reducible refine Tr.exit ?_) | (with_reducible refine Tr.then_exit ?_) | ((with_reducible refine Tr.in_exit ?_ ?_); (exact rfl)) | (refine Tr.cond_f rfl (by first | (with_reducible assumption) | (with_reducible rfl) | (with_reducible exact (not_not_intro rfl)) | omega) ?_))
  rw [show (P.length : Int) / 64 = ((P.length / 64 : Nat) : Int) by omega]
  refine Tr.loop (α := Nat) (fun i => ⟨84, [(47, .int .i64 i), (46, .int .i64 ((P.length / 64 : Nat) : Int)), (7, .func (.func 28) #[.pointer (some ⟨bst, 0, none⟩)] #[]), (4, .slice A5 P.length c5), (3, .pointer (some ⟨bst, 0, none⟩)), (2, .pointer (some ⟨b2, 0, none⟩))], [], M1, box bst 52 (wV (blks P i)) :: box b2 26 _ :: ([] ++ F)⟩)
    (fun i => i ≤ P.length / 64) (fun i => P.length / 64 - i) 0 (Nat.zero_le _) (holds_sub (by repeat (first | exact SubFr.nil | refine SubFr.cons rfl ?_)) (by repeat (first | exact DropL.refl | apply DropL.skip))) (fun i hi => ?_)
  by_cases hlt : i < P.length / 64
  · have hsub := hbp.sub (l := 64 * i) (k := 64 * i + 64) (m := c5) (by omega) (by omega) (by omega) (Nat.le_refl _)
    have e1 : 64 * (i : Int) = ((64 * i : Nat) : Int) := by omega
    have e2 : ((64 * i : Nat) : Int) + 64 = ((64 * i + 64 : Nat) : Int) := by omega
    rw [show 64 * i + 64 - 64 * i = 64 by omega] at hsub
    repeat (first | ((with_reducible refine Tr.step rfl ?_); (first | ((with_reducible refine Knd.move ?_); (refine Exec.stab rfl (Stab.move rfl) rfl ?_)) | ((with_reducible refine Knd.assign ?_); (refine Exec.stab rfl (Stab.assign rfl) rfl ?_)) | ((with_reducible refine Knd.binOp ?_); (first | (refine Exec.stab rfl (Stab.addi rfl rfl (by omega)) rfl ?_) | (refine Exec.stab rfl (Stab.muli rfl rfl (by omega)) rfl ?_) | (refine Exec.stab rfl (Stab.int rfl rfl rfl) rfl ?_))) | ((with_reducible refine Knd.slice ?_); ((refine Exec.stab rfl (Stab.slice_lh rfl rfl rfl (tysOk.get rfl) rfl (tysOk.get rfl) rfl (by omega) (by omega) (by omega)) rfl ?_))))) | (with_reducible refine Tr.next ?_) | (with_reducible refine Tr.seq ?_) | (with_reducible refine Tr.region ?_) | (with_reducible refine Tr.nil ?_) | (with_reducible refine Tr.skip ?_) | (with_reducible refine Tr.block ?_) | (refine Tr.cond_t rfl (by first | (with_reducible assumption) | (with_reducible rfl) | (with_reducible exact (not_not_intro rfl)) | omega) ?_))
    rw [show (64 * (i : Int)).toNat = 64 * i by omega, show (64 * (i : Int) + 64).toNat = 64 * i + 64 by omega, show 64 * i + 64 - 64 * i = 64 by omega]
    ((refine Tr.step rfl ?_))
    refine Exec.callv (A := [box bst 52 (wV (blks P i))]) (first := [.pointer (some ⟨bst, 0, none⟩)]) (cap := []) rfl rfl (absorb_fn M1 hK1 bst (blks P i) (blks_length P i) _ _ _ hsub (by simp; omega)) (List.Perm.refl _) rfl ?_
    rintro _ _ _ - ⟨rfl, rfl⟩
    rw [show blkF (blks P i) ((P.drop (64 * i)).take 64) = blks P (i + 1) from rfl]
    repeat (first | ((with_reducible refine Tr.step rfl ?_); (first | ((with_reducible refine Knd.move ?_); (refine Exec.stab rfl (Stab.move rfl) rfl ?_)) | ((with_reducible refine Knd.binOp ?_); ((refine Exec.stab rfl (Stab.addi rfl rfl (by omega)) rfl ?_))))) | (with_reducible refine Tr.next ?_) | (with_reducible refine Tr.region ?_) | (with_reducible refine Tr.nil ?_) | (with_reducible refine Tr.in_normal ?_))
    refine Tr.again (i + 1) (by omega) (by omega) (holds_sub (by repeat (first | exact SubFr.nil | refine SubFr.cons rfl ?_)) (by repeat (first | exact DropL.refl | apply DropL.skip)))
  have e : i = P.length / 64 := by omega
  subst e
  clear hlt hi
  generalize hS : blks P (P.length / 64) = St
  have hSl : St.length = 8 := by rw [← hS]; exact blks_length _ _
  repeat (first | ((with_reducible refine Tr.step rfl ?_); (first | ((with_reducible refine Knd.move ?_); (refine Exec.stab rfl (Stab.move rfl) rfl ?_)) | ((with_reducible refine Knd.binOp ?_); ((refine Exec.stab rfl (Stab.int rfl rfl rfl) rfl ?_))))) | (with_reducible refine Tr.next ?_) | (with_reducible refine Tr.seq ?_) | (with_reducible refine Tr.region ?_) | (with_reducible refine Tr.nil ?_) | (with_reducible refine Tr.block ?_) | (with_reducible refine Tr.exit ?_) | (with_reducible refine Tr.then_exit ?_) | ((with_reducible refine Tr.in_exit ?_ ?_); (exact rfl)) | (refine Tr.cond_f rfl (by first | (with_reducible assumption) | (with_reducible rfl) | (with_reducible exact (not_not_intro rfl)) | omega) ?_))
  refine Tr.cells (b := b2) (t := 26) (cs' := byteV (List.replicate 32 0)) (by repeat (first | exact Upd.here | apply Upd.there)) (by kernel_rfl) ?_
  refine Tr.loop (α := Nat × List UInt8) (fun y => ⟨84, [(61, .int .i64 y.1), (60, .pointer (some ⟨bst, 0, none⟩)), (2, .pointer (some ⟨b2, 0, none⟩))], [], M1, box bst 52 (wV St) :: box b2 26 (byteV y.2) :: ([] ++ F)⟩)
    (fun y => y.1 ≤ 8 ∧ y.2.length = 32 ∧ ∀ q, q < 4 * y.1 → y.2.getD q 0 = outB St q) (fun y => 8 - y.1) (0, List.replicate 32 0) ⟨by simp, by simp, fun q hq => absurd hq (by simp)⟩ (holds_sub (by repeat (first | exact SubFr.nil | refine SubFr.cons rfl ?_)) (by repeat (first | exact DropL.refl | apply DropL.skip))) (fun y hy => ?_)
  obtain ⟨i, cur⟩ := y
  obtain ⟨hi, hcl, hq⟩ := hy
  simp only at hi hcl hq
  dsimp only
  by_cases hlt : i < 8
  · have gs := wV_getD (l := St) (i := i) (by omega)
    repeat (first | ((with_reducible refine Tr.step rfl ?_); (((with_reducible refine Knd.binOp ?_); ((refine Exec.stab rfl (Stab.int rfl rfl rfl) rfl ?_))))) | (with_reducible refine Tr.next ?_) | (with_reducible refine Tr.seq ?_) | (with_reducible refine Tr.region ?_) | (with_reducible refine Tr.nil ?_) | (with_reducible refine Tr.skip ?_) | (with_reducible refine Tr.block ?_) | (refine Tr.cond_t rfl (by first | (with_reducible assumption) | (with_reducible rfl) | (with_reducible exact (not_not_intro rfl)) | omega) ?_))
    (((apply Tr.draw); (kernel_rfl)); (refine TrA.take 0 (by kernel_rfl) rfl (by kernel_rfl) (by first | exact fun _ _ _ h => h | exact fun _ _ _ h => nomatch h.1) (by first | exact fun _ h => h | (intro r h; cases h; done) | exact (Sub.mem (by repeat (first | exact Sub.refl | apply Sub.cons)))) rfl (by first | exact Stab.move rfl) rfl rfl ?_); (refine TrA.take 1 (by kernel_rfl) rfl (by kernel_rfl) (by first | exact fun _ _ _ h => h | exact fun _ _ _ h => nomatch h.1) (by first | exact fun _ h => h | (intro r h; cases h; done) | exact (Sub.mem (by repeat (first | exact Sub.refl | apply Sub.cons)))) rfl (by first | exact Stab.nilCheck rfl) rfl rfl ?_); (refine TrA.take 2 (by kernel_rfl) rfl (by kernel_rfl) (by first | exact fun _ _ _ h => h | exact fun _ _ _ h => nomatch h.1) (by first | exact fun _ h => h | (intro r h; cases h; done) | exact (Sub.mem (by repeat (first | exact Sub.refl | apply Sub.cons)))) rfl (by exact Stab.indexArrB0 rfl rfl (tysOk.get rfl) rfl (tysOk.get rfl) rfl (by omega) (by omega)) rfl rfl ?_); (refine TrA.take 4 (by kernel_rfl) rfl (by kernel_rfl) (by first | exact fun _ _ _ h => h | exact fun _ _ _ h => nomatch h.1) (by first | exact fun _ h => h | (intro r h; cases h; done) | exact (Sub.mem (by repeat (first | exact Sub.refl | apply Sub.cons)))) rfl (by first | exact Stab.assign rfl) rfl rfl ?_); (refine TrA.take 3 (by kernel_rfl) rfl (by kernel_rfl) (by first | exact fun _ _ _ h => h | exact fun _ _ _ h => nomatch h.1) (by first | exact fun _ h => h | (intro r h; cases h; done) | exact (Sub.mem (by repeat (first | exact Sub.refl | apply Sub.cons)))) rfl (by exact Stab.load rfl (tysOk.get rfl) rfl (by repeat (first | exact Has.here | apply Has.there)) (by assumption)) rfl rfl ?_); (refine TrA.take 5 (by kernel_rfl) rfl (by kernel_rfl) (by first | exact fun _ _ _ h => h | exact fun _ _ _ h => nomatch h.1) (by first | exact fun _ h => h | (intro r h; cases h; done) | exact (Sub.mem (by repeat (first | exact Sub.refl | apply Sub.cons)))) rfl (by first | exact Stab.assign rfl) rfl rfl ?_); (refine TrA.done (by kernel_rfl) ?_))
    generalize hx : St.getD i 0 = x
    repeat (first | ((with_reducible refine Tr.step rfl ?_); (((with_reducible refine Knd.move ?_); (refine Exec.stab rfl (Stab.move rfl) rfl ?_)))) | (with_reducible refine Tr.next ?_) | (with_reducible refine Tr.seq ?_) | (with_reducible refine Tr.region ?_) | (with_reducible refine Tr.nil ?_) | (with_reducible refine Tr.block ?_))
    refine Tr.loop (α := Nat × List UInt8) (fun y => ⟨84, [(67, .int .i64 y.1), (9, .int .i64 i), (10, .int .u32 (x.toNat : Int)), (61, .int .i64 i), (60, .pointer (some ⟨bst, 0, none⟩)), (2, .pointer (some ⟨b2, 0, none⟩))], [], M1, box bst 52 (wV St) :: box b2 26 (byteV y.2) :: ([] ++ F)⟩)
      (fun y => y.1 ≤ 4 ∧ y.2.length = 32 ∧ ∀ q, q < 4 * i + y.1 → y.2.getD q 0 = outB St q) (fun y => 4 - y.1) (0, cur) ⟨by simp, hcl, fun q h => hq q (by simpa using h)⟩ (holds_sub (by repeat (first | exact SubFr.nil | refine SubFr.cons rfl ?_)) (by repeat (first | exact DropL.refl | apply DropL.skip))) (fun y hy => ?_)
    clear hq hcl
    obtain ⟨j, cur⟩ := y
    obtain ⟨hj, hcl, hq⟩ := hy
    simp only at hj hcl hq
    dsimp only
    have hcl' : (byteV cur).length = 32 := by simpa using hcl
    by_cases hjt : j < 4
    · have e24 : 24 - 8 * (j : Int) = ((24 - 8 * j : Nat) : Int) := by omega
      repeat (first | ((with_reducible refine Tr.step rfl ?_); (first | ((with_reducible refine Knd.move ?_); (refine Exec.stab rfl (Stab.move rfl) rfl ?_)) | ((with_reducible refine Knd.assign ?_); (refine Exec.stab rfl (Stab.assign rfl) rfl ?_)) | ((with_reducible refine Knd.binOp ?_); (first | (refine Exec.stab rfl (Stab.addi rfl rfl (by omega)) rfl ?_) | (refine Exec.stab rfl (Stab.subi rfl rfl (by omega)) rfl ?_) | (refine Exec.stab rfl (Stab.muli rfl rfl (by omega)) rfl ?_) | (refine Exec.stab rfl (Stab.int rfl rfl rfl) rfl ?_))))) | (with_reducible refine Tr.next ?_) | (with_reducible refine Tr.seq ?_) | (with_reducible refine Tr.region ?_) | (with_reducible refine Tr.nil ?_) | (with_reducible refine Tr.skip ?_) | (with_reducible refine Tr.block ?_) | (refine Tr.cond_t rfl (by first | (with_reducible assumption) | (with_reducible rfl) | (with_reducible exact (not_not_intro rfl)) | omega) ?_))
      rw [e24]
      refine Tr.step rfl ?_
      refine Exec.stab rfl (Stab.shrw (24 - 8 * j) rfl rfl rfl (by omega)) rfl ?_
      repeat (first | ((with_reducible refine Tr.step rfl ?_); (first | ((with_reducible refine Knd.move ?_); (refine Exec.stab rfl (Stab.move rfl) rfl ?_)) | ((with_reducible refine Knd.binOp ?_); ((refine Exec.stab rfl (Stab.addi rfl rfl (by omega)) rfl ?_))) | ((with_reducible refine Knd.store ?_); ((refine Exec.storeS rfl rfl (tysOk.get rfl) rfl (by first | rfl | assumption) (by repeat (first | exact Upd.here | apply Upd.there)) (by omega) ?_))) | ((with_reducible refine Knd.indexAddr ?_); ((refine Exec.stab rfl (Stab.indexArrB0 rfl rfl (tysOk.get rfl) rfl (tysOk.get rfl) rfl (by omega) (by omega)) rfl ?_))) | ((with_reducible refine Knd.convert ?_); ((refine Exec.stab rfl (Stab.wByte rfl (tysOk.get rfl) (tysOk.get rfl) rfl rfl) rfl ?_))))) | (with_reducible refine Tr.next ?_) | (with_reducible refine Tr.region ?_) | (with_reducible refine Tr.nil ?_) | (with_reducible refine Tr.in_normal ?_))
      rw [show Int.toNat (4 * (i : Int) + (j : Int)) = 4 * i + j by omega, byteV_set]
      refine Tr.again (j + 1, cur.set (4 * i + j) (x >>> UInt32.ofNat (24 - 8 * j)).toUInt8) ⟨by simp only; omega, by simpa using hcl, fun q h => ?_⟩ (by simp only; omega) (holds_sub (by repeat (first | exact SubFr.nil | refine SubFr.cons rfl ?_)) (by repeat (first | exact DropL.refl | apply DropL.skip)))
      simp only at h ⊢
      by_cases e : q = 4 * i + j
      · subst e
        rw [List.getD_eq_getElem?_getD, List.getElem?_set_self (by omega), outB, show (4 * i + j) / 4 = i by omega, show (4 * i + j) % 4 = j by omega, hx]
        rfl
      · rw [List.getD_eq_getElem?_getD, List.getElem?_set_ne (by omega), ← List.getD_eq_getElem?_getD]
        exact hq q (by omega)
    · have e : j = 4 := by omega
      subst e
      repeat (first | ((with_reducible refine Tr.step rfl ?_); (first | ((with_reducible refine Knd.move ?_); (refine Exec.stab rfl (Stab.move rfl) rfl ?_)) | ((with_reducible refine Knd.binOp ?_); (first | (refine Exec.stab rfl (Stab.addi rfl rfl (by omega)) rfl ?_) | (refine Exec.stab rfl (Stab.int rfl rfl rfl) rfl ?_))))) | (with_reducible refine Tr.next ?_) | (with_reducible refine Tr.seq ?_) | (with_reducible refine Tr.region ?_) | (with_reducible refine Tr.nil ?_) | (with_reducible refine Tr.exit ?_) | (with_reducible refine Tr.then_exit ?_) | (with_reducible refine Tr.in_normal ?_) | ((with_reducible refine Tr.in_exit ?_ ?_); (exact rfl)) | (refine Tr.cond_f rfl (by first | (with_reducible assumption) | (with_reducible rfl) | (with_reducible exact (not_not_intro rfl)) | omega) ?_))
      refine Tr.again (i + 1, cur) ⟨by simp only; omega, hcl, fun q h => hq q (by simp only at h; omega)⟩ (by simp only; omega) (holds_sub (by repeat (first | exact SubFr.nil | refine SubFr.cons rfl ?_)) (by repeat (first | exact DropL.refl | apply DropL.skip)))
  have e : i = 8 := by omega
  subst e
  have hout := out_done hcl (fun q h => hq q (by omega))
  have hcl' : (byteV cur).length = 32 := by simpa using hcl
  repeat (first | ((with_reducible refine Tr.step rfl ?_); (first | ((with_reducible refine Knd.load ?_); ((refine Exec.stab rfl (Stab.loadW rfl (tysOk.get rfl) rfl (by repeat (first | exact Has.here | apply Has.there)) (by assumption)) rfl ?_))) | ((with_reducible refine Knd.binOp ?_); ((refine Exec.stab rfl (Stab.int rfl rfl rfl) rfl ?_))) | ((with_reducible refine Knd.store ?_); ((refine Exec.storeW rfl rfl (tysOk.get rfl) (by repeat (first | exact Upd.here | apply Upd.there)) (by first | rfl | assumption) (by first | rfl | assumption) (by first | exact AllOne.bytes _ | exact AllOne.words _ | exact (by repeat (first | exact AllOne.nil | refine AllOne.cons (by first | rfl | assumption) ?_))) ?_))))) | (with_reducible refine Tr.next ?_) | (with_reducible refine Tr.seq ?_) | (with_reducible refine Tr.region ?_) | (with_reducible refine Tr.nil ?_) | (with_reducible refine Tr.exit ?_) | (with_reducible refine Tr.ret ?_) | (with_reducible refine Tr.then_exit ?_) | ((with_reducible refine Tr.in_exit ?_ ?_); (exact rfl)) | (refine Tr.cond_f rfl (by first | (with_reducible assumption) | (with_reducible rfl) | (with_reducible exact (not_not_intro rfl)) | omega) ?_))
  (refine Tr.done (by first | exact .inl rfl | exact .inr rfl) rfl (by repeat (first | exact RVs.nil | (apply RVs.cons; (exact RV.cellW (by rfl) (tysOk.get (by rfl)) (by rfl) (by repeat (first | exact Has.here | apply Has.there)) (by first | rfl | assumption))))) (by first | exact Mem.le.refl _ | assumption) (by exact ⟨[_, _], rfl⟩) ⟨rfl, ?_⟩)
  show Value.agg (byteV cur).toArray = _
  rw [hout, ← hS, ← hP]
  rfl
end Go.Proofs.YtoaepelmhmddmaaDoor
