/-
  Texts of the proof, one after the other.
  Conditions: none.
-/
import Derived.Test.YtghjhdbmkilakaaGreatDoorWBfConv
import Derived.Test.YtghjhdbmkilakaaGreatDoorWBfGrow
import Derived.Test.YtghjhdbmkilakaaGreatDoorWBfArrS
import Derived.Test.YtghjhdbmkilakaaGreatDoorWBfClear
import Derived.Test.YtghjhdbmkilakaaGreatDoorWBfLend
import Derived.Test.YtghjhdbmkilakaaGreatDoorWBfBits
import Derived.Test.YtghjhdbmkilakaaGreatDoorWBfUnd
import Derived.Test.YtghjhdbmkilakaaGreatDoorWBfFn
import Derived.Test.YtghjhdbmkilakaaGreatDoorWBfScope
import Derived.Test.YtghjhdbmkilakaaGreatDoorWBfInts
import Derived.Test.YtghjhdbmkilakaaGreatDoorWBfStr
import Derived.Test.YtghjhdbmkilakaaGreatDoorWBfTail
import Derived.Test.YtghjhdbmkilakaaGreatDoorWBfPub
import Derived.Test.YtghjhdbmkilakaaGreatDoorWBfSl
import Derived.Test.YtghjhdbmkilakaaGreatDoorWBfCopyS
import Derived.Test.YtghjhdbmkilakaaGreatDoorWXs
import Derived.Test.YtghjhdbmkilakaaGreatDoorWa
/-
  The digest: the contracts of Grow, Concat, Tagged and node.
  Conditions: none.
-/
namespace Go.Proofs.YtghjhdbmkilakaaGreatDoor.Dg
open Go Bf
attribute [local irreducible] Tr Exec Stab HasTy Go.Addr.add IntKind.wrap
set_option maxHeartbeats 2000000 in
theorem grow_fn (M : Mem) (n : Nat) (hn : n ≤ 1000000000000) : Bf.Fn Tryz.prog 70 [.slice none 0 0, .int .i64 (n : Int)] M []
    (fun r M' A' => M = M' ∧ ∃ A c, r = .slice A 0 c ∧ c ≤ 9223372036854775807 ∧ A' = [ownS 5 1 A 0 c []]) := by
  refine Fn.intro Tryz.func70 rfl rfl Tryz.ntmps70 rfl fun E F => ?_
  by_cases h0 : 0 < n
  · repeat (first | ((with_reducible refine Tr.step rfl ?_); (first | (refine xmQ (z := ?_)) | (refine xaQ (z := ?_)) | (refine xnQ (z := ?_)) | ((with_reducible refine Knd.cap ?_); (refine Exec.stab rfl (Stab.cap rfl (tysOk.get rfl) rfl) rfl ?_)) | ((with_reducible refine Knd.binOp ?_); (first | (refine Exec.stab rfl (Stab.subi rfl rfl (by omega)) rfl ?_) | (refine xiQ (z := ?_)))) | ((with_reducible refine Knd.slice ?_); ((refine Exec.stab rfl (Stab.slice_h rfl rfl (tysOk.get rfl) rfl (tysOk.get rfl) (by omega) (by omega)) rfl ?_))))) | (with_reducible first | apply Tr.next | apply Tr.seq | apply Tr.region | apply Tr.nil | apply Tr.skip) | (refine Tr.cond_t rfl (by first | (with_reducible assumption) | (with_reducible rfl) | (with_reducible exact (not_not_intro rfl)) | omega) ?_) | (refine Tr.cond_f rfl (by first | (with_reducible assumption) | (with_reducible rfl) | (with_reducible exact (not_not_intro rfl)) | omega) ?_))
    rw [show (n : Int) - (((0 : Nat) : Int) - ((0 : Nat) : Int)) = (n : Int) by omega]
    repeat (fail)
    ((refine Tr.step rfl ?_))
    refine Exec.appendMake rfl rfl (tysOk.get rfl) rfl (tysOk.get rfl) rfl (tysOk.get rfl) rfl rfl rfl h0 (by show n * 1 ≤ _; omega) (by omega) rfl (fun b c hc1 hc2 => ?_)
    repeat (first | ((with_reducible refine Tr.step rfl ?_); (first | (refine xmQ (z := ?_)) | (refine xaQ (z := ?_)) | (refine xnQ (z := ?_)) | ((with_reducible refine Knd.slice ?_); ((refine Exec.stab rfl (Stab.slice_h rfl rfl (tysOk.get rfl) rfl (tysOk.get rfl) (by omega) (by omega)) rfl ?_))))) | (with_reducible first | apply Tr.next | apply Tr.seq | apply Tr.region | apply Tr.nil | apply Tr.ret))
    refine Tr.box_ownC 1 0 c (by repeat (first | exact Upd.here | apply Upd.there)) (by simp) (Nat.zero_le _) (by simpa [maxLen] using hc2) rfl (by intro u hu; simp at hu) ?_
    refine Tr.doneA (A' := [ownS 5 1 (some ⟨b, 0, none⟩) 0 c []]) (by first | exact .inl rfl | exact .inr rfl) rfl (by repeat (first | exact RVs.nil | (apply RVs.cons; (exact RV.tmp rfl)))) (Mem.le.refl _) ⟨fun _ h => h, fun h => h⟩ ⟨rfl, _, c, rfl, hc2, rfl⟩
  · have e : n = 0 := by omega
    subst e
    repeat (first | ((with_reducible refine Tr.step rfl ?_); (first | (refine xmQ (z := ?_)) | (refine xaQ (z := ?_)) | (refine xnQ (z := ?_)) | ((with_reducible refine Knd.cap ?_); (refine Exec.stab rfl (Stab.cap rfl (tysOk.get rfl) rfl) rfl ?_)) | ((with_reducible refine Knd.binOp ?_); (first | (refine Exec.stab rfl (Stab.subi rfl rfl (by omega)) rfl ?_) | (refine xiQ (z := ?_)))))) | (with_reducible first | apply Tr.next | apply Tr.seq | apply Tr.region | apply Tr.nil | apply Tr.skip | apply Tr.ret) | (refine Tr.cond_f rfl (by first | (with_reducible assumption) | (with_reducible rfl) | (with_reducible exact (not_not_intro rfl)) | omega) ?_))
    refine Tr.own_nil 5 1 ?_
    refine Tr.doneA (A' := [ownS 5 1 none 0 0 []]) (by first | exact .inl rfl | exact .inr rfl) rfl (by repeat (first | exact RVs.nil | (apply RVs.cons; (exact RV.tmp rfl)))) (Mem.le.refl _) ⟨fun _ h => h, fun h => h⟩ ⟨rfl, none, 0, rfl, by omega, rfl⟩
/-- a slice of bytes as an element -/
def RB (M : Mem) (c : List Value) (x : List UInt8) : Prop := ∃ A k, c = [.slice A x.length k] ∧ BSl M (.slice A x.length k) x
theorem RB.mono (M M' : Mem) (c : List Value) (x : List UInt8) (hm : Mem.le M M') (h : RB M c x) : RB M' c x := let ⟨A, k, h1, h2⟩ := h; ⟨A, k, h1, h2.mono hm⟩
theorem flat_take {l : List (List UInt8)} {i : Nat} {x : List UInt8} (h : l[i]? = some x) : (l.take (i + 1)).flatten = (l.take i).flatten ++ x := by
  rw [List.take_add_one, h]; simp
theorem flat_le (l : List (List UInt8)) (i : Nat) : ((l.take i).flatten).length ≤ l.flatten.length := by
  have : l.flatten = (l.take i).flatten ++ (l.drop i).flatten := by rw [← List.flatten_append, List.take_append_drop]
  rw [this]; simp
set_option maxHeartbeats 4000000 in
theorem concat_fn (M : Mem) (A : Option Addr) (c : Nat) (l : List (List UInt8)) (hl : SlOf 1 RB M (.slice A l.length c) l) (hb : l.flatten.length ≤ 100000000000) :
    Fn0 Tryz.prog 37 [.slice A l.length c] M (fun r M' => ∃ B k, r = .slice B l.flatten.length k ∧ BSl M' (.slice B l.flatten.length k) l.flatten) := by
  have hll := hl.len_le
  refine Fn.intro Tryz.func37 rfl rfl Tryz.ntmps37 rfl fun E F => ?_
  have hw : ∃ ws : Nat → List UInt8, ∀ i, ws i = (l.take i).flatten := ⟨_, fun _ => rfl⟩
  obtain ⟨ws, hws⟩ := hw
  have hwl : ∀ i, (ws i).length ≤ 100000000000 := fun i => by rw [hws]; exact Nat.le_trans (flat_le l i) hb
  have hw0 : ws 0 = [] := by rw [hws]; rfl
  repeat (first | ((with_reducible refine Tr.step rfl ?_); (first | (refine xmQ (z := ?_)) | (refine xaQ (z := ?_)) | (refine xnQ (z := ?_)))) | (with_reducible first | apply Tr.next | apply Tr.seq | apply Tr.region | apply Tr.nil | apply Tr.block))
  refine Tr.loop (α := Nat) (fun i => ⟨36, [(11, .int .i64 i), (10, .int .i64 l.length), (9, .slice A l.length c), (3, .int .i64 ((ws i).length : Int)), (2, .slice none 0 0), (0, .slice A l.length c)], [], M, [] ++ F⟩) (fun i => i ≤ l.length) (fun i => l.length - i) 0 (Nat.zero_le _) (by rw [hw0]; exact hsQ) (fun i hi => ?_)
  have hi1 := hwl i
  have hi2 := hwl (i + 1)
  by_cases hlt : i < l.length
  · obtain ⟨x, hx⟩ := get_of_lt hlt
    obtain ⟨hA1, ch1, hat1, A1, k1, rfl, hxb⟩ := hl.elem hx
    have hxl : (ws (i + 1)).length = (ws i).length + x.length := by rw [hws, hws, flat_take hx, List.length_append]
    repeat (first | ((with_reducible refine Tr.step rfl ?_); (first | (refine xmQ (z := ?_)) | (refine xaQ (z := ?_)) | (refine xMQ (z := ?_)) | (refine xnQ (z := ?_)) | ((with_reducible refine Knd.binOp ?_); (first | (refine xdQ (z := ?_)) | (refine xiQ (z := ?_)))) | (refine xxQ (z := ?_)))) | (with_reducible first | apply Tr.next | apply Tr.seq | apply Tr.region | apply Tr.nil | apply Tr.skip | apply Tr.block | apply Tr.in_normal) | (refine Tr.cond_t rfl (by first | (with_reducible assumption) | (with_reducible rfl) | (with_reducible exact (not_not_intro rfl)) | omega) ?_) | (refine Tr.cond_f rfl (by first | (with_reducible assumption) | (with_reducible rfl) | (with_reducible exact (not_not_intro rfl)) | omega) ?_))
    rw [show ((ws i).length : Int) + (x.length : Int) = ((ws (i + 1)).length : Int) by omega]
    repeat (fail)
    refine Tr.again (i + 1) (by omega) (by omega) hsQ
  have e : i = l.length := by omega
  subst e
  have hfull : ws l.length = l.flatten := by rw [hws, List.take_length]
  repeat (first | ((with_reducible refine Tr.step rfl ?_); (first | (refine xmQ (z := ?_)) | (refine xiQ (z := ?_)))) | (with_reducible first | apply Tr.next | apply Tr.seq | apply Tr.region | apply Tr.nil | apply Tr.exit | apply Tr.then_exit) | ((with_reducible refine Tr.in_exit ?_ ?_); (exact rfl)) | (refine Tr.cond_f rfl (by first | (with_reducible assumption) | (with_reducible rfl) | (with_reducible exact (not_not_intro rfl)) | omega) ?_))
  ((refine Tr.step rfl ?_))
  refine Exec.call (A := []) rfl (grow_fn M (ws l.length).length (by omega)) (List.Perm.refl _) rfl ?_
  rintro _ _ _ - ⟨rfl, A4, c4, rfl, hc4, rfl⟩
  repeat (first | ((with_reducible refine Tr.step rfl ?_); (first | (refine xmQ (z := ?_)) | (refine xaQ (z := ?_)) | (refine xnQ (z := ?_)))) | (with_reducible first | apply Tr.next | apply Tr.seq | apply Tr.region | apply Tr.nil | apply Tr.block))
  refine Tr.loop (α := Nat × Option Addr × Nat) (fun y => ⟨36, [(27, .int .i64 y.1), (26, .int .i64 l.length), (25, .slice A l.length c), (6, .slice y.2.1 (ws y.1).length y.2.2), (2, .slice none 0 0)], [], M, ownS 5 1 y.2.1 (ws y.1).length y.2.2 (byteV (ws y.1)) :: ([] ++ F)⟩)
    (fun y => y.1 ≤ l.length ∧ y.2.2 ≤ 9223372036854775807) (fun y => l.length - y.1) (0, A4, c4) ⟨Nat.zero_le _, hc4⟩ (by rw [hw0]; exact hsQ) (fun y hy => ?_)
  clear hi hlt hi1 hi2
  obtain ⟨i, A5, c5⟩ := y
  obtain ⟨hi, hc5⟩ := hy
  simp only at hi hc5
  dsimp only
  have hi1 := hwl i
  have hi2 := hwl (i + 1)
  by_cases hlt : i < l.length
  · obtain ⟨x, hx⟩ := get_of_lt hlt
    obtain ⟨hA1, ch1, hat1, A1, k1, rfl, hxb⟩ := hl.elem hx
    have hxx : ws i ++ x = ws (i + 1) := by rw [hws, hws, flat_take hx]
    have hxl : (ws (i + 1)).length = (ws i).length + x.length := by rw [← hxx, List.length_append]
    have hcap := hxb.cap
    repeat (first | ((with_reducible refine Tr.step rfl ?_); (first | (refine xmQ (z := ?_)) | (refine xaQ (z := ?_)) | (refine xMQ (z := ?_)) | (refine xiQ (z := ?_)) | (refine xxQ (z := ?_)))) | (with_reducible first | apply Tr.next | apply Tr.seq | apply Tr.region | apply Tr.nil | apply Tr.skip | apply Tr.block) | (refine Tr.cond_t rfl (by first | (with_reducible assumption) | (with_reducible rfl) | (with_reducible exact (not_not_intro rfl)) | omega) ?_))
    ((refine Tr.step rfl ?_))
    refine Exec.append (news := byteV x) rfl rfl (tysOk.get rfl) rfl (tysOk.get rfl) rfl rfl rfl rfl (by repeat (first | exact Del.here | apply Del.there)) (Src.row hcap.2.2.2) (by simp) (byteV_one _) (by omega) (by omega) rfl (fun A6 c6 hc6 => ?_)
    rw [← byteV_append, hxx, ← hxl]
    repeat (first | ((with_reducible refine Tr.step rfl ?_); (first | (refine xmQ (z := ?_)) | (refine xaQ (z := ?_)) | (refine xdQ (z := ?_)))) | (with_reducible first | apply Tr.next | apply Tr.region | apply Tr.nil | apply Tr.in_normal))
    refine Tr.again (i + 1, A6, c6) ⟨by simp only; omega, hc6⟩ (by simp only; omega) hsQ
  have e : i = l.length := by omega
  subst e
  rw [hfull]
  repeat (first | ((with_reducible refine Tr.step rfl ?_); (first | (refine xmQ (z := ?_)) | (refine xaQ (z := ?_)) | (refine xiQ (z := ?_)))) | (with_reducible first | apply Tr.next | apply Tr.seq | apply Tr.region | apply Tr.nil | apply Tr.exit | apply Tr.ret | apply Tr.then_exit) | ((with_reducible refine Tr.in_exit ?_ ?_); (exact rfl)) | (refine Tr.cond_f rfl (by first | (with_reducible assumption) | (with_reducible rfl) | (with_reducible exact (not_not_intro rfl)) | omega) ?_))
  refine pbQ (r := ownS 5 1 _ _ _ _) (k := fun M1 hm1 hok => ?_)
  (refine dnQ (hL := by exact ⟨[], rfl⟩) (k := ⟨rfl, ?_⟩))
  exact ⟨A5, c5, rfl, BSl.ofOwn hok rfl hc5⟩
/-- a hash with a tag -/
def tagF (t b : List UInt8) : List UInt8 := sumF (sumF t ++ b)
theorem tagF_length (t b : List UInt8) : (tagF t b).length = 32 := sumF_length _
theorem two_bytes {M : Mem} {b n m : Nat} {A B : Option Addr} {x y : List UInt8} {c k : Nat} (hx : BSl M (.slice A n c) x) (hy : BSl M (.slice B m k) y) (h : (box b 28 [.slice A n c, .slice B m k]).ok M) : SlOf 1 RB M (.slice (some ⟨b, 0, none⟩) [x, y].length [x, y].length) [x, y] := by
  obtain rfl := hx.len
  obtain rfl := hy.len
  refine SlOf.ofBox h (by intro u hu; simp at hu; rcases hu with rfl | rfl <;> rfl) (by simp) ⟨by simp, fun i z hz => ?_⟩
  match i, hz with
  | 0, hz => cases hz; exact ⟨A, c, rfl, hx⟩
  | 1, hz => cases hz; exact ⟨B, k, rfl, hy⟩
set_option maxHeartbeats 4000000 in
theorem tagged_fn (M : Mem) (hK : At M ⟨0, 0, none⟩ (wV Kw)) (t : List UInt8) (ht : t.length ≤ 100000000) (A : Option Addr) (c : Nat) (bs : List UInt8) (hb : BSl M (.slice A bs.length c) bs) (hl : bs.length ≤ 100000000) :
    Fn0 Tryz.prog 13 [.string ⟨t.toArray⟩, .slice A bs.length c] M (fun r M' => r = .agg (byteV (tagF t bs)).toArray) := by
  refine Fn.intro Tryz.func13 rfl rfl Tryz.ntmps13 rfl fun E F => ?_
  repeat (first | ((with_reducible refine Tr.step rfl ?_); (first | (refine xmQ (z := ?_)) | ((with_reducible refine Knd.alloc ?_); (first | (refine Exec.alloc (tysOk.get rfl) rfl rfl (fun b => ?_)) | (refine Exec.alloc1 (tysOk.get rfl) rfl rfl rfl (fun b => ?_)))))) | (with_reducible first | apply Tr.next | apply Tr.seq | apply Tr.region | apply Tr.nil))
  generalize hb4 : b = b4
  ((refine Tr.step rfl ?_))
  refine Exec.strBytes (l := t) rfl (tysOk.get rfl) (tysOk.get rfl) rfl (tysOk.get rfl) rfl (by omega) rfl (fun b9 c9 M1 hm1 hb9 => ?_)
  have hs := sum_fn M1 (hK.mono hm1) _ _ t hb9 (by omega)
  have hsl : (byteV (sumF t)).length = 32 := by simpa using sumF_length t
  have hsl' := sumF_length t
  unfold tagF
  generalize hT : sumF t = T at hs hsl hsl' ⊢
  repeat (fail)
  ((refine Tr.step rfl ?_)); refine Exec.call0 rfl (hs) rfl ?_
  rintro _ M2 hm2 rfl
  repeat (first | ((with_reducible refine Tr.step rfl ?_); (first | (refine xmQ (z := ?_)) | ((with_reducible refine Knd.store ?_); ((refine Exec.storeW rfl rfl (tysOk.get rfl) (by repeat (first | exact Upd.here | apply Upd.there)) (by first | rfl | assumption) (by first | rfl | assumption) (by first | exact AllOne.bytes _ | exact AllOne.words _ | exact (by repeat (first | exact AllOne.nil | refine AllOne.cons (by first | rfl | assumption) ?_))) ?_))) | ((with_reducible refine Knd.alloc ?_); (first | (refine Exec.alloc (tysOk.get rfl) rfl rfl (fun b => ?_)) | (refine Exec.alloc1 (tysOk.get rfl) rfl rfl rfl (fun b => ?_)))) | ((with_reducible refine Knd.slice ?_); ((refine Exec.stab rfl (Stab.sliceArr rfl (tysOk.get rfl) rfl (tysOk.get rfl) rfl) rfl ?_))) | ((with_reducible refine Knd.buildSlice ?_); (refine Exec.buildSlice (tysOk.get rfl) rfl (tysOk.get rfl) rfl rfl rfl rfl rfl (by repeat (first | exact BuildP.nil | ((apply BuildP.one); (rfl); (rfl); (first | rfl | assumption); (repeat (first | exact SetL.z | apply SetL.s))))) rfl (fun b => ?_))))) | (with_reducible first | apply Tr.next | apply Tr.seq | apply Tr.region | apply Tr.nil))
  rename_i b5
  refine pbQ (r := box b5 25 _) (k := fun M3 hm3 hok3 => ?_)
  have hbt := BSl.ofBox hok3 (by omega)
  rw [hsl'] at hbt
  have hm03 := hm1.trans (hm2.trans hm3)
  have hb3 := hb.mono hm03
  refine pbQ (r := box _ 28 _) (k := fun M4 hm4 hok4 => ?_)
  have hls := two_bytes (hbt.mono hm4) (hb3.mono hm4) hok4
  ((refine Tr.step rfl ?_)); refine Exec.call0 rfl (concat_fn M4 _ _ [T, bs] hls (by simp; omega)) rfl ?_
  rintro _ M5 hm5 ⟨B6, k6, rfl, hb6⟩
  rw [show [T, bs].flatten = T ++ bs by simp] at hb6 ⊢
  have hm05 := hm03.trans (hm4.trans hm5)
  have hs2 := sum_fn M5 (hK.mono hm05) B6 k6 (T ++ bs) hb6 (by simp; omega)
  have hrl : (byteV (sumF (T ++ bs))).length = 32 := by simpa using sumF_length (T ++ bs)
  generalize hR : sumF (T ++ bs) = R at hs2 hrl ⊢
  ((refine Tr.step rfl ?_)); refine Exec.call0 rfl (hs2) rfl ?_
  rintro _ M6 hm6 rfl
  have hm06 := hm05.trans hm6
  repeat (first | ((with_reducible refine Tr.step rfl ?_); (((with_reducible refine Knd.store ?_); ((refine Exec.storeW rfl rfl (tysOk.get rfl) (by repeat (first | exact Upd.here | apply Upd.there)) (by first | rfl | assumption) (by first | rfl | assumption) (by first | exact AllOne.bytes _ | exact AllOne.words _ | exact (by repeat (first | exact AllOne.nil | refine AllOne.cons (by first | rfl | assumption) ?_))) ?_))))) | (with_reducible first | apply Tr.next | apply Tr.nil | apply Tr.ret))
  (refine Tr.done (by first | exact .inl rfl | exact .inr rfl) rfl (by repeat (first | exact RVs.nil | (apply RVs.cons; (exact RV.cellW (by rfl) (tysOk.get (by rfl)) (by rfl) (by repeat (first | exact Has.here | apply Has.there)) (by first | rfl | assumption))))) (by first | exact Mem.le.refl _ | assumption) (by exact ⟨[_], rfl⟩) ⟨rfl, ?_⟩)
  rfl
theorem BSl.of32 {M : Mem} {b t : Nat} {d : List UInt8} (h : (box b t (byteV d)).ok M) (hd : d.length = 32) : BSl M (.slice (some ⟨b, 0, none⟩) 32 32) d := by
  have := BSl.ofBox h (by omega)
  rwa [hd] at this
end Go.Proofs.YtghjhdbmkilakaaGreatDoor.Dg

/-
  Frames: the contracts of Clone, Equal and Encode.
  Conditions: none.
-/
namespace Go.Proofs.YtghjhdbmkilakaaGreatDoor
open Go Bf
attribute [local irreducible] Tr Exec Stab HasTy Go.Addr.add IntKind.wrap
def fTag : List UInt8 := [102, 114, 97, 109, 101]
/-- the digest under the tag of frames -/
def TF (b : List UInt8) : List UInt8 := Dg.tagF fTag b
theorem TF_len (b : List UInt8) : (TF b).length = 32 := Dg.tagF_length _ _
/-- the table of the digest -/
abbrev Tab (M : Mem) : Prop := At M ⟨0, 0, none⟩ (wV Dg.Kw)
/-- the cells of a frame -/
def RFrm (M : Mem) (cs : List Value) (f : Frm) : Prop := ∃ A c, cs = [.int .i64 f.kind, .slice A f.body.length c] ∧ BSl M (.slice A f.body.length c) f.body ∧ (-9223372036854775808 ≤ f.kind ∧ f.kind ≤ 9223372036854775807)
theorem RFrm.mono (M M' : Mem) (cs : List Value) (f : Frm) (hm : Mem.le M M') (h : RFrm M cs f) : RFrm M' cs f := let ⟨A, c, h1, h2, h3⟩ := h; ⟨A, c, h1, h2.mono hm, h3⟩
abbrev RFrms (M : Mem) (v : Value) (l : List Frm) : Prop := SlOf 2 RFrm M v l
/-- what Encode answers -/
def encFr (f : Frm) : List UInt8 × Int := if okF f then (encB TF f, 0) else ([], 470)
def RBE (M : Mem) (r : Value) (p : List UInt8 × Int) : Prop := ∃ A c, r = .tuple #[.slice A p.1.length c, .int .i64 p.2] ∧ BSl M (.slice A p.1.length c) p.1

set_option maxHeartbeats 1000000 in
theorem cloneB_fn (M : Mem) (A : Option Addr) (n c : Nat) (bs : List UInt8) (h : BSl M (.slice A n c) bs) (hl : bs.length ≤ 1000000000) :
    Fn0 Tryz.prog 39 [.slice A n c] M (fun r M' => ∃ A' c', r = .slice A' bs.length c' ∧ BSl M' (.slice A' bs.length c') bs) := by
  have hn := h.len
  subst hn
  obtain ⟨h1, h2, h3, h4⟩ := h.cap
  refine Fn.intro Tryz.func39 rfl rfl Tryz.ntmps39 rfl fun E F => ?_
  by_cases hA : A = none
  · have hl0 := h3 hA
    have hnil : bs = [] := List.eq_nil_of_length_eq_zero hl0
    subst hnil
    (repeat (first | ((with_reducible refine Tr.step rfl ?_); (first | (refine xmQ (z := ?_)) | (refine xaQ (z := ?_)) | ((with_reducible refine Knd.binOp ?_); (refine Exec.stab rfl (Stab.slnil rfl (tysOk.get rfl) rfl) rfl ?_)))) | (with_reducible first | apply Tr.next | apply Tr.seq | apply Tr.region | apply Tr.nil | apply Tr.ret | apply Tr.then_ret) | (refine Tr.cond_t rfl (by first | (with_reducible assumption) | (with_reducible rfl) | (with_reducible exact (not_not_intro rfl)) | omega) ?_)))
    (refine dnQ (hL := by exact ⟨[], rfl⟩) (k := ⟨rfl, ?_⟩))
    exact ⟨none, 0, rfl, BSl.nil _⟩
  · (repeat (first | ((with_reducible refine Tr.step rfl ?_); (first | (refine xmQ (z := ?_)) | (refine xaQ (z := ?_)) | ((with_reducible refine Knd.binOp ?_); (refine Exec.stab rfl (Stab.slnil rfl (tysOk.get rfl) rfl) rfl ?_)) | ((with_reducible refine Knd.buildSlice ?_); (refine Exec.buildSlice (tysOk.get rfl) rfl (tysOk.get rfl) rfl rfl rfl rfl rfl (by repeat (first | exact BuildP.nil | ((apply BuildP.one); (rfl); (rfl); (first | rfl | assumption); (repeat (first | exact SetL.z | apply SetL.s))) | ((apply BuildP.many); (rfl); (rfl); (rfl); (rfl); (repeat (first | exact PutL.nil | ((apply PutL.cons); (repeat (first | exact SetL.z | apply SetL.s)))))))) rfl (fun b => ?_))))) | (with_reducible first | apply Tr.next | apply Tr.seq | apply Tr.region | apply Tr.nil | apply Tr.skip) | (refine Tr.cond_f rfl (by first | (with_reducible assumption) | (with_reducible rfl) | (with_reducible exact (not_not_intro rfl)) | omega) ?_)))
    refine Tr.box_own 1 0 (by repeat (first | exact Upd.here | apply Upd.there)) rfl (by intro u hu; cases hu) (by simp [maxLen]) ?_
    ((refine Tr.step rfl ?_))
    refine Exec.append (news := byteV bs) rfl rfl (tysOk.get rfl) rfl (tysOk.get rfl) rfl rfl rfl rfl (by repeat (first | exact Del.here | apply Del.there)) (Src.row h4) (by simp) (byteV_one bs) (by omega) (by omega) rfl (fun A' c' hc' => ?_)
    simp only [Nat.zero_add, List.nil_append]
    (repeat (first | ((with_reducible refine Tr.step rfl ?_); (with_reducible refine Knd.assign ?_); (refine xaQ (z := ?_))) | (with_reducible first | apply Tr.next | apply Tr.nil | apply Tr.ret)))
    refine Tr.publish (by repeat (first | exact Del.here | apply Del.there)) (fun M' hm hok => ?_)
    (refine dnQ (hL := by exact ⟨[], rfl⟩) (k := ⟨rfl, ?_⟩))
    exact ⟨A', c', rfl, BSl.ofOwn hok rfl hc'⟩
set_option maxHeartbeats 1000000 in
theorem bequal_fn (M : Mem) (A B : Option Addr) (n m c k : Nat) (x y : List UInt8) (hx : BSl M (.slice A n c) x) (hy : BSl M (.slice B m k) y) :
    Fn0 Tryz.prog 54 [.slice A n c, .slice B m k] M (fun r M' => r = .bool (decide (x = y)) ∧ M = M') := by
  refine Fn.intro Tryz.func54 rfl rfl Tryz.ntmps54 rfl fun E F => ?_
  (repeat (first | ((with_reducible refine Tr.step rfl ?_); (first | (refine xmQ (z := ?_)) | (refine xaQ (z := ?_)) | ((with_reducible refine Knd.binOp ?_); (refine Exec.stab rfl (Stab.streq rfl rfl) rfl ?_)) | ((with_reducible refine Knd.convert ?_); (refine Exec.stab rfl (Stab.bstrB rfl (tysOk.get rfl) (tysOk.get rfl) rfl rfl (tysOk.get rfl) rfl (by assumption)) rfl ?_)))) | (with_reducible first | apply Tr.next | apply Tr.seq | apply Tr.region | apply Tr.nil | apply Tr.ret)))
  (refine dnQ (hL := by exact ⟨[], rfl⟩) (k := ⟨rfl, ?_⟩))
  refine ⟨?_, rfl⟩
  refine congrArg Value.bool ?_
  by_cases e : x = y
  · subst e; simp
  · rw [decide_eq_false e]
/-- Tagged of bytes that the walk owns -/
theorem tagged_own (M : Mem) (hK : Tab M) (A : Option Addr) (c : Nat) (bs : List UInt8) (hc : c ≤ 9223372036854775807) (hl : bs.length ≤ 100000000) :
    Bf.Fn Tryz.prog 13 [.string ⟨fTag.toArray⟩, .slice A bs.length c] M [ownS 5 1 A bs.length c (byteV bs)] (fun v M' A' => A' = [ownS 5 1 A bs.length c (byteV bs)] ∧ M = M' ∧ v = .agg (byteV (TF bs)).toArray) :=
  Fn.lend (R := fun v => v = .agg (byteV (TF bs)).toArray) ⟨Tryz.f13, Tryz.func13, rfl, rfl⟩ fun M' hm hok => by
    have h := Fn.forget (R := fun v A' => A' = [] ∧ v = .agg (byteV (TF bs)).toArray) (Dg.tagged_fn M' (hK.mono hm) fTag (by decide) A c bs (BSl.ofOwn (hok _ List.mem_cons_self) rfl hc) hl)
    exact Fn.mono h fun v M2 A' _ ⟨⟨h1, h2⟩, h3⟩ => ⟨h1, h2, h3⟩
theorem hd_cells {k : Int} {n : Nat} (h0 : 0 ≤ k) (h1 : k ≤ 255) (hn : n ≤ 65536) :
    [Value.int .u8 170, .int .u8 k, .int .u8 ((n : Int) / 16777216), .int .u8 ((n : Int) / 65536), .int .u8 (IntKind.u8.wrap ((n : Int) / 256)), .int .u8 (IntKind.u8.wrap (n : Int))] = byteV (hdF k.toNat n) := by
  have q1 := Dg.be_byte n 8
  have q0 := Dg.be_byte n 0
  have e8 : (n : Int) / 2 ^ 8 = (n : Int) / 256 := rfl
  have e0 : (n : Int) / 2 ^ 0 = (n : Int) := by simp
  rw [e8] at q1
  rw [e0] at q0
  simp only [byteV, List.map_cons, List.map_nil, List.cons.injEq, and_true] at q1 q0
  have b : ∀ m : Nat, m < 256 → ((UInt8.ofNat m).toNat : Int) = (m : Int) := fun m hm => by rw [UInt8.toNat_ofNat']; omega
  show _ = [Value.int .u8 ((170 : UInt8).toNat : Int), .int .u8 ((UInt8.ofNat k.toNat).toNat : Int), .int .u8 ((UInt8.ofNat (n / 16777216)).toNat : Int), .int .u8 ((UInt8.ofNat (n / 65536)).toNat : Int), .int .u8 ((UInt8.ofNat (n / 256)).toNat : Int), .int .u8 ((UInt8.ofNat n).toNat : Int)]
  rw [q1, q0, b k.toNat (by omega), b (n / 16777216) (by omega), b (n / 65536) (by omega)]
  simp
  omega
set_option maxHeartbeats 2000000 in
theorem encode_fr (M : Mem) (hK : Tab M) (A : Option Addr) (c : Nat) (f : Frm) (hb : BSl M (.slice A f.body.length c) f.body) :
    Fn0 Tryz.prog 12 [.agg #[.int .i64 f.kind, .slice A f.body.length c]] M (fun r M' => RBE M' r (encFr f)) := by
  have hlen := hb.len_le
  have hcap := hb.cap
  refine Fn.intro Tryz.func12 rfl rfl Tryz.ntmps12 rfl fun E F => ?_
  by_cases hok : okF f
  rotate_left
  · have e : encFr f = ([], 470) := by rw [encFr, if_neg hok]
    rw [e]
    by_cases c1 : f.kind < 0
    · (repeat (first | ((with_reducible refine Tr.step rfl ?_); (first | (refine xmQ (z := ?_)) | (refine xaQ (z := ?_)) | (refine xlQ (z := ?_)) | (refine xfQ (z := ?_)) | (refine xiQ (z := ?_)) | ((with_reducible refine Knd.pick ?_); (first | (refine Exec.stab rfl (Stab.pick_t rfl (by first | (with_reducible rfl) | (with_reducible assumption) | (with_reducible exact Bool.not_true) | (with_reducible exact Bool.not_false)) rfl) rfl ?_) | (refine Exec.stab rfl (Stab.pick_td rfl (by first | (with_reducible assumption) | (with_reducible rfl) | (with_reducible exact (not_not_intro rfl)) | omega) rfl) rfl ?_))) | ((with_reducible refine Knd.box ?_); (refine Exec.box rfl rfl (fun b => ?_))))) | (with_reducible first | apply Tr.next | apply Tr.seq | apply Tr.region | apply Tr.nil) | (refine Tr.guard_s0 rfl rfl rfl (by first | (with_reducible rfl) | (with_reducible assumption) | (with_reducible exact Bool.not_true) | (with_reducible exact Bool.not_false)) rfl rfl ?_) | (refine Tr.guard_n' rfl rfl rfl (by first | (with_reducible assumption) | (with_reducible rfl) | (with_reducible exact (not_not_intro rfl)) | omega) rfl rfl ?_) | (with_reducible first | apply Tr.ret | apply Tr.then_ret) | (refine Tr.cond_bt rfl (by first | (with_reducible rfl) | (with_reducible assumption) | (with_reducible exact Bool.not_true) | (with_reducible exact Bool.not_false)) ?_)))
      (refine dnQ (hL := by exact ⟨[_], rfl⟩) (k := ⟨rfl, ?_⟩))
      exact ⟨none, 0, rfl, BSl.nil _⟩
    by_cases c2 : f.kind > 255
    · (repeat (first | ((with_reducible refine Tr.step rfl ?_); (first | (refine xmQ (z := ?_)) | (refine xaQ (z := ?_)) | (refine xlQ (z := ?_)) | (refine xfQ (z := ?_)) | (refine xiQ (z := ?_)) | ((with_reducible refine Knd.pick ?_); (first | (refine Exec.stab rfl (Stab.pick_td rfl (by first | (with_reducible assumption) | (with_reducible rfl) | (with_reducible exact (not_not_intro rfl)) | omega) rfl) rfl ?_) | (refine Exec.stab rfl (Stab.pick_fd rfl (by first | (with_reducible assumption) | (with_reducible rfl) | (with_reducible exact (not_not_intro rfl)) | omega) rfl) rfl ?_))) | ((with_reducible refine Knd.box ?_); (refine Exec.box rfl rfl (fun b => ?_))))) | (with_reducible first | apply Tr.next | apply Tr.seq | apply Tr.region | apply Tr.nil) | ((refine Tr.guard_y' rfl rfl rfl (by first | (with_reducible assumption) | (with_reducible rfl) | (with_reducible exact (not_not_intro rfl)) | omega) ?_); (first | (refine xlQ (z := ?_)) | (refine xfQ (z := ?_)) | (refine xiQ (z := ?_)))) | (refine Tr.guard_n' rfl rfl rfl (by first | (with_reducible assumption) | (with_reducible rfl) | (with_reducible exact (not_not_intro rfl)) | omega) rfl rfl ?_) | (with_reducible first | apply Tr.ret | apply Tr.then_ret) | (refine Tr.cond_bt rfl (by first | (with_reducible rfl) | (with_reducible assumption) | (with_reducible exact Bool.not_true) | (with_reducible exact Bool.not_false)) ?_)))
      (refine dnQ (hL := by exact ⟨[_], rfl⟩) (k := ⟨rfl, ?_⟩))
      exact ⟨none, 0, rfl, BSl.nil _⟩
    have c3 : (f.body.length : Int) > 65536 := by
      have h : ¬ (f.body.length ≤ 65536) := fun h => hok ⟨⟨by omega, by omega⟩, h⟩
      omega
    (repeat (first | ((with_reducible refine Tr.step rfl ?_); (first | (refine xmQ (z := ?_)) | (refine xaQ (z := ?_)) | (refine xlQ (z := ?_)) | (refine xfQ (z := ?_)) | (refine xiQ (z := ?_)) | ((with_reducible refine Knd.pick ?_); (refine Exec.stab rfl (Stab.pick_fd rfl (by first | (with_reducible assumption) | (with_reducible rfl) | (with_reducible exact (not_not_intro rfl)) | omega) rfl) rfl ?_)) | ((with_reducible refine Knd.box ?_); (refine Exec.box rfl rfl (fun b => ?_))))) | (with_reducible first | apply Tr.next | apply Tr.seq | apply Tr.region | apply Tr.nil) | ((refine Tr.guard_y' rfl rfl rfl (by first | (with_reducible assumption) | (with_reducible rfl) | (with_reducible exact (not_not_intro rfl)) | omega) ?_); (first | (refine xlQ (z := ?_)) | (refine xfQ (z := ?_)) | (refine xnQ (z := ?_)) | (refine xiQ (z := ?_)))) | (with_reducible first | apply Tr.ret | apply Tr.then_ret) | (refine Tr.cond_t rfl (by first | (with_reducible assumption) | (with_reducible rfl) | (with_reducible exact (not_not_intro rfl)) | omega) ?_)))
    (refine dnQ (hL := by exact ⟨[_], rfl⟩) (k := ⟨rfl, ?_⟩))
    exact ⟨none, 0, rfl, BSl.nil _⟩
  have e : encFr f = (encB TF f, 0) := by rw [encFr, if_pos hok]
  rw [e]
  obtain ⟨⟨k1, k2⟩, k3⟩ := hok
  (repeat (first | ((with_reducible refine Tr.step rfl ?_); (first | (refine xmQ (z := ?_)) | (refine xaQ (z := ?_)) | (refine xlQ (z := ?_)) | (refine xfQ (z := ?_)) | (refine xnQ (z := ?_)) | ((with_reducible refine Knd.binOp ?_); (first | (refine Exec.stab rfl (Stab.shrc 8 (p := 256) rfl rfl rfl rfl) rfl ?_) | (refine Exec.stab rfl (Stab.shrc 16 (p := 65536) rfl rfl rfl rfl) rfl ?_) | (refine Exec.stab rfl (Stab.shrc 24 (p := 16777216) rfl rfl rfl rfl) rfl ?_) | (refine xiQ (z := ?_)))) | ((with_reducible refine Knd.pick ?_); (refine Exec.stab rfl (Stab.pick_fd rfl (by first | (with_reducible assumption) | (with_reducible rfl) | (with_reducible exact (not_not_intro rfl)) | omega) rfl) rfl ?_)) | ((with_reducible refine Knd.box ?_); (refine Exec.box rfl rfl (fun b => ?_))) | ((with_reducible refine Knd.convert ?_); (first | (refine Exec.stab rfl (Stab.convu8 rfl (tysOk.get rfl) (tysOk.get rfl) rfl rfl (by omega)) rfl ?_) | (refine Exec.stab rfl (Stab.conv rfl (tysOk.get rfl) (tysOk.get rfl) rfl rfl) rfl ?_))) | ((with_reducible refine Knd.buildSlice ?_); (refine Exec.buildSlice (tysOk.get rfl) rfl (tysOk.get rfl) rfl rfl rfl rfl rfl (by repeat (first | exact BuildP.nil | ((apply BuildP.one); (rfl); (rfl); (first | rfl | assumption); (repeat (first | exact SetL.z | apply SetL.s))) | ((apply BuildP.many); (rfl); (rfl); (rfl); (rfl); (repeat (first | exact PutL.nil | ((apply PutL.cons); (repeat (first | exact SetL.z | apply SetL.s)))))))) rfl (fun b => ?_))))) | (with_reducible first | apply Tr.next | apply Tr.seq | apply Tr.region | apply Tr.nil) | ((refine Tr.guard_y' rfl rfl rfl (by first | (with_reducible assumption) | (with_reducible rfl) | (with_reducible exact (not_not_intro rfl)) | omega) ?_); (first | (refine xlQ (z := ?_)) | (refine xfQ (z := ?_)) | (refine xnQ (z := ?_)) | (refine xiQ (z := ?_)))) | (with_reducible refine Tr.skip ?_) | (refine Tr.cond_f rfl (by first | (with_reducible assumption) | (with_reducible rfl) | (with_reducible exact (not_not_intro rfl)) | omega) ?_)))
  refine Tr.own_nil 5 1 ?_
  refine Tr.cells (cs' := byteV (hdF f.kind.toNat f.body.length)) (by repeat (first | exact Upd.here | apply Upd.there)) (hd_cells k1 k2 k3) ?_
  ((refine Tr.step rfl ?_))
  refine Exec.append (news := byteV (hdF f.kind.toNat f.body.length)) rfl rfl (tysOk.get rfl) rfl (tysOk.get rfl) rfl rfl rfl rfl (by repeat (first | exact Del.here | apply Del.there)) (Src.box (by repeat (first | exact Has.here | apply Has.there))) rfl (byteV_one _) (by omega) (by omega) rfl (fun A1 c1 hc1 => ?_)
  refine gvQ (r := box _ 5 (byteV _)) (k := ?_)
  (repeat (first | ((with_reducible refine Tr.step rfl ?_); (first | (refine xmQ (z := ?_)) | (refine xaQ (z := ?_)) | (refine xlQ (z := ?_)) | (refine xfQ (z := ?_)))) | (with_reducible first | apply Tr.next | apply Tr.seq | apply Tr.region | apply Tr.nil)))
  ((refine Tr.step rfl ?_))
  refine Exec.append (news := byteV f.body) rfl rfl (tysOk.get rfl) rfl (tysOk.get rfl) rfl rfl rfl rfl (by repeat (first | exact Del.here | apply Del.there)) (Src.row hcap.2.2.2) (by simp) (byteV_one _) (by omega) (by omega) rfl (fun A2 c2 hc2 => ?_)
  rw [List.nil_append, Nat.zero_add, ← byteV_append, show 6 + f.body.length = (preF f).length by rw [preF_length]; omega]
  show Tr _ ⟨_, _, _, _, ownS 5 1 A2 _ c2 (byteV (preF f)) :: _⟩ _
  have hpl := preF_length f
  (repeat (first | ((with_reducible refine Tr.step rfl ?_); (first | (refine xmQ (z := ?_)) | (refine xaQ (z := ?_)))) | (with_reducible first | apply Tr.next | apply Tr.seq | apply Tr.region | apply Tr.nil)))
  ((refine Tr.step rfl ?_))
  refine Exec.call (A := [ownS 5 1 A2 (preF f).length c2 (byteV (preF f))]) rfl (tagged_own M hK A2 c2 (preF f) hc2 (by omega)) (List.Perm.refl _) rfl ?_
  rintro _ _ _ hm1 ⟨rfl, rfl, rfl⟩
  have htl := TF_len (preF f)
  have hbl : (byteV (TF (preF f))).length = 32 := by simpa using htl
  have hEB : (encB TF f).length = (preF f).length + 4 := by rw [encB_length TF_len, preF_length]
  have e2 : encB TF f = preF f ++ (TF (preF f)).take 4 := rfl
  generalize TF (preF f) = d at htl hbl e2 ⊢
  (repeat (first | ((with_reducible refine Tr.step rfl ?_); (first | (refine xmQ (z := ?_)) | ((with_reducible refine Knd.store ?_); (refine Exec.storeW rfl rfl (tysOk.get rfl) (by repeat (first | exact Upd.here | apply Upd.there)) (by first | rfl | assumption) (by first | rfl | assumption) (by first | exact AllOne.bytes _ | exact AllOne.words _ | exact (by repeat (first | exact AllOne.nil | refine AllOne.cons (by first | rfl | assumption) ?_))) ?_)) | ((with_reducible refine Knd.alloc ?_); (refine Exec.alloc (tysOk.get rfl) rfl rfl (fun b => ?_))) | ((with_reducible refine Knd.slice ?_); (refine Exec.stab rfl (Stab.sliceArrH rfl rfl (tysOk.get rfl) rfl (tysOk.get rfl) rfl (by omega) (by omega)) rfl ?_)))) | (with_reducible first | apply Tr.next | apply Tr.seq | apply Tr.region | apply Tr.nil)))
  ((refine Tr.step rfl ?_))
  refine Exec.append (news := ((byteV d).drop 0).take 4) rfl rfl (tysOk.get rfl) rfl (tysOk.get rfl) rfl rfl rfl rfl (by repeat (first | exact Del.here | apply Del.there)) (Src.boxP (by repeat (first | exact Has.here | apply Has.there))) (by simp; omega) (fun u hu => byteV_one _ u (by simpa using List.mem_of_mem_take hu)) (by simp; omega) (by simp; omega) rfl (fun A3 c3 hc3 => ?_)
  have e3 : byteV (preF f) ++ ((byteV d).drop 0).take 4 = byteV (encB TF f) := by rw [e2, byteV_append, List.drop_zero]; simp [byteV, List.map_take]
  rw [e3, show (preF f).length + Int.toNat 4 = (encB TF f).length by rw [hEB]; rfl]
  (repeat (first | ((with_reducible refine Tr.step rfl ?_); (with_reducible refine Knd.assign ?_); (refine xaQ (z := ?_))) | (with_reducible first | apply Tr.next | apply Tr.nil | apply Tr.ret)))
  refine pbQ (r := ownS 5 1 A3 _ c3 _) (k := fun M' hm hok => ?_)
  (refine dnQ (hL := by exact ⟨[_, _], rfl⟩) (k := ⟨rfl, ?_⟩))
  exact ⟨A3, c3, rfl, BSl.ofOwn hok rfl hc3⟩
end Go.Proofs.YtghjhdbmkilakaaGreatDoor

/-
  Frames: the contract of first.
  Conditions: none.
-/
namespace Go.Proofs.YtghjhdbmkilakaaGreatDoor
open Go Bf
attribute [local irreducible] Tr Exec Stab HasTy Go.Addr.add IntKind.wrap
/-- what first answers -/
def RFirst (M : Mem) (r : Value) (o : Option (Frm × Nat)) : Prop := match o with
  | none => r = .tuple #[.agg #[.int .i64 0, .slice none 0 0], .int .i64 0, .bool false]
  | some (f, n) => ∃ A c, r = .tuple #[.agg #[.int .i64 f.kind, .slice A f.body.length c], .int .i64 n, .bool true] ∧ BSl M (.slice A f.body.length c) f.body
theorem getB {M : Mem} {A : Option Addr} {c : Nat} {bs : List UInt8} (hb : BSl M (.slice A bs.length c) bs) (i : Nat) (hi : i < bs.length) : A.isSome = true ∧ At M ((A.getD default).add (i * 1)) (.int .u8 ((bs.getD i 0).toNat : Int) :: (byteV bs).drop (i + 1)) := by
  obtain ⟨a, rfl, h2⟩ := hb.cap.2.2.2.at_ (by omega)
  refine ⟨rfl, ?_⟩
  have := h2.drop i
  rw [List.drop_eq_getElem_cons (by simpa using hi)] at this
  simpa [byteV, List.getD_eq_getElem?_getD, hi] using this
set_option maxHeartbeats 4000000 in
theorem first_fn (M : Mem) (hK : Tab M) (A : Option Addr) (c : Nat) (bs : List UInt8) (hb : BSl M (.slice A bs.length c) bs) :
    Fn0 Tryz.prog 23 [.slice A bs.length c] M (fun r M' => RFirst M' r (firstF TF bs)) := by
  have hlen := hb.len_le
  have hcap := hb.cap
  refine Fn.intro Tryz.func23 rfl rfl Tryz.ntmps23 rfl fun E F => ?_
  by_cases c1 : bs.length < 10
  · have e : firstF TF bs = none := first_nil_of c1
    rw [e]
    (repeat (first | ((with_reducible refine Tr.step rfl ?_); (first | (refine xmQ (z := ?_)) | (refine xaQ (z := ?_)) | (refine xnQ (z := ?_)) | (refine xiQ (z := ?_)) | ((with_reducible refine Knd.pick ?_); (refine Exec.stab rfl (Stab.pick_td rfl (by omega) rfl) rfl ?_)) | (refine xWQ (z := ?_)) | ((with_reducible refine Knd.alloc ?_); (refine Exec.alloc (tysOk.get rfl) rfl rfl (fun b => ?_))) | ((with_reducible refine Knd.build ?_); (refine Exec.stab rfl (Stab.build tysOk rfl rfl rfl rfl (by repeat (exact BuildP.nil))) rfl ?_)))) | (with_reducible first | apply Tr.next | apply Tr.seq | apply Tr.region | apply Tr.nil) | (refine Tr.guard_n' rfl rfl rfl (by first | (with_reducible assumption) | omega) rfl rfl ?_) | (with_reducible first | apply Tr.ret | apply Tr.then_ret) | (refine Tr.cond_bt rfl (by (with_reducible rfl)) ?_)))
    (refine Tr.done (by first | exact .inl rfl | exact .inr rfl) rfl (by repeat (first | exact RVs.nil | (apply RVs.cons; (first | exact RV.tmp rfl | exact RV.cellW (by rfl) (tysOk.get (by rfl)) (by rfl) (by repeat (first | exact Has.here | apply Has.there)) (by first | rfl | assumption))))) (by first | exact Mem.le.refl _ | assumption) (by exact ⟨[_], rfl⟩) ⟨rfl, ?_⟩)
    rfl
  obtain ⟨hA, h0⟩ := getB hb 0 (by omega)
  obtain ⟨-, h1⟩ := getB hb 1 (by omega)
  obtain ⟨-, h2⟩ := getB hb 2 (by omega)
  obtain ⟨-, h3⟩ := getB hb 3 (by omega)
  obtain ⟨-, h4⟩ := getB hb 4 (by omega)
  obtain ⟨-, h5⟩ := getB hb 5 (by omega)
  by_cases c2 : ((bs.getD 0 0).toNat : Int) ≠ 170
  · have e : firstF TF bs = none := first_mark (fun h => c2 (by rw [h]; rfl))
    rw [e]
    (repeat (first | ((with_reducible refine Tr.step rfl ?_); (first | (refine xmQ (z := ?_)) | (refine xaQ (z := ?_)) | (refine xnQ (z := ?_)) | (refine xiQ (z := ?_)) | ((with_reducible refine Knd.pick ?_); (refine Exec.stab rfl (Stab.pick_fd rfl (by omega) rfl) rfl ?_)) | (refine xWQ (z := ?_)) | ((with_reducible refine Knd.alloc ?_); (refine Exec.alloc (tysOk.get rfl) rfl rfl (fun b => ?_))) | ((with_reducible refine Knd.build ?_); (refine Exec.stab rfl (Stab.build tysOk rfl rfl rfl rfl (by repeat (exact BuildP.nil))) rfl ?_)))) | (with_reducible first | apply Tr.next | apply Tr.seq | apply Tr.region | apply Tr.nil) | ((refine Tr.guard_y' rfl rfl rfl (by first | (with_reducible assumption) | omega) ?_); (first | (refine xmQ (z := ?_)) | (refine xMQ (z := ?_)) | (refine xiQ (z := ?_)) | (refine xxQ (z := ?_)))) | (with_reducible first | apply Tr.ret | apply Tr.then_ret) | (refine Tr.cond_t rfl (by (with_reducible assumption)) ?_)))
    (refine Tr.done (by first | exact .inl rfl | exact .inr rfl) rfl (by repeat (first | exact RVs.nil | (apply RVs.cons; (first | exact RV.tmp rfl | exact RV.cellW (by rfl) (tysOk.get (by rfl)) (by rfl) (by repeat (first | exact Has.here | apply Has.there)) (by first | rfl | assumption))))) (by first | exact Mem.le.refl _ | assumption) (by exact ⟨[_], rfl⟩) ⟨rfl, ?_⟩)
    rfl
  have u1 := (bs.getD 1 0).toNat_lt
  have u2 := (bs.getD 2 0).toNat_lt
  have u3 := (bs.getD 3 0).toNat_lt
  have u4 := (bs.getD 4 0).toNat_lt
  have u5 := (bs.getD 5 0).toNat_lt
  (repeat (first | ((with_reducible refine Tr.step rfl ?_); (first | (refine xmQ (z := ?_)) | (refine xaQ (z := ?_)) | (refine xnQ (z := ?_)) | (refine xiQ (z := ?_)) | ((with_reducible refine Knd.pick ?_); (refine Exec.stab rfl (Stab.pick_fd rfl (by omega) rfl) rfl ?_)) | ((with_reducible refine Knd.alloc ?_); (refine Exec.alloc (tysOk.get rfl) rfl rfl (fun b => ?_))))) | (with_reducible first | apply Tr.next | apply Tr.seq | apply Tr.region | apply Tr.nil) | ((refine Tr.guard_y' rfl rfl rfl (by first | (with_reducible assumption) | omega) ?_); (first | (refine xmQ (z := ?_)) | (refine xMQ (z := ?_)) | (refine xiQ (z := ?_)) | (refine xxQ (z := ?_)))) | (with_reducible refine Tr.skip ?_) | (refine Tr.cond_f rfl (by (with_reducible assumption)) ?_)))
  (((apply Tr.draw); (kernel_rfl)); (refine tkQ 0 (hB := by exact fun _ h => h) (s := by exact Stab.move rfl) (h := ?_)); (refine tkQ 5 (s := by exact Stab.move rfl) (h := ?_)); (refine tkQ 11 (s := by exact Stab.move rfl) (h := ?_)); (refine tkQ 17 (s := by exact Stab.move rfl) (h := ?_)); (refine tkQ 1 (s := by exact sxQ) (h := ?_)); (refine tkQ 6 (s := by exact sxQ) (h := ?_)); (refine tkQ 12 (s := by exact sxQ) (h := ?_)); (refine tkQ 18 (s := by exact sxQ) (h := ?_)); (refine tkQ 2 (s := by exact sMQ) (h := ?_)); (refine tkQ 7 (s := by exact sMQ) (h := ?_)); (refine tkQ 13 (s := by exact sMQ) (h := ?_)); (refine tkQ 19 (s := by exact sMQ) (h := ?_)); (refine tkQ 3 (s := by exact Stab.convi rfl (tysOk.get rfl) (tysOk.get rfl) rfl rfl (by omega)) (h := ?_)); (refine tkQ 8 (s := by exact Stab.convi rfl (tysOk.get rfl) (tysOk.get rfl) rfl rfl (by omega)) (h := ?_)); (refine tkQ 14 (s := by exact Stab.convi rfl (tysOk.get rfl) (tysOk.get rfl) rfl rfl (by omega)) (h := ?_)); (refine tkQ 20 (s := by exact Stab.convi rfl (tysOk.get rfl) (tysOk.get rfl) rfl rfl (by omega)) (h := ?_)); (refine tkQ 4 (s := by exact Stab.shlk 24 (p := 16777216) rfl rfl rfl rfl (by omega)) (h := ?_)); (refine tkQ 9 (s := by exact Stab.shlk 16 (p := 65536) rfl rfl rfl rfl (by omega)) (h := ?_)); (refine tkQ 15 (s := by exact Stab.shlk 8 (p := 256) rfl rfl rfl rfl (by omega)) (h := ?_)); (refine tkQ 10 (s := by exact Stab.ork 24 (p := 16777216) rfl rfl rfl rfl (by omega) (by omega) (by omega)) (h := ?_)); (refine tkQ 16 (s := by exact Stab.ork 16 (p := 65536) rfl rfl rfl rfl (by omega) (by omega) (by omega)) (h := ?_)); (refine tkQ 21 (s := by exact Stab.ork 8 (p := 256) rfl rfl rfl rfl (by omega) (by omega) (by omega)) (h := ?_)); (refine tkQ 22 (s := by exact Stab.assign rfl) (h := ?_)); (refine TrA.done (by kernel_rfl) ?_))
  have em : (((bs.getD 2 0).toNat : Int) * 16777216 + ((bs.getD 3 0).toNat : Int) * 65536 + ((bs.getD 4 0).toNat : Int) * 256 + ((bs.getD 5 0).toNat : Int)) = (manyF bs : Int) := by unfold manyF; omega
  rw [em]
  have hun : firstF TF bs = if 65536 < manyF bs ∨ bs.length < manyF bs + 10 then none
      else if (TF (bs.take (6 + manyF bs))).take 4 = (bs.drop (6 + manyF bs)).take 4 then some (⟨((bs.getD 1 0).toNat : Int), (bs.drop 6).take (manyF bs)⟩, manyF bs + 10) else none := by
    rw [firstF, if_neg]
    rintro (h | h)
    · exact c1 h
    · refine h ?_
      apply UInt8.toNat_inj.1
      show (bs.getD 0 0).toNat = 170
      omega
  rw [hun]
  clear h0 h2 h3 h4 h5 hun em
  generalize manyF bs = m
  refine Tr.less [(5, .int .i64 (m : Int)), (4, .bool false), (3, .int .i64 0), (2, .pointer (some ⟨b, 0, none⟩)), (0, .slice A bs.length c)] (box b 40 [.int .i64 0, .slice none 0 0] :: ([] ++ F)) (by repeat (first | exact SubFr.nil | refine SubFr.cons rfl ?_)) (by repeat (first | exact DropL.refl | apply DropL.skip)) ?_
  by_cases c3 : (65536 : Int) < (m : Int)
  · rw [if_pos (.inl (by omega))]
    (repeat (first | ((with_reducible refine Tr.step rfl ?_); (first | (refine xmQ (z := ?_)) | (refine xaQ (z := ?_)) | (refine xiQ (z := ?_)) | ((with_reducible refine Knd.pick ?_); (refine Exec.stab rfl (Stab.pick_td rfl (by (with_reducible assumption)) rfl) rfl ?_)) | (refine xWQ (z := ?_)) | ((with_reducible refine Knd.build ?_); (refine Exec.stab rfl (Stab.build tysOk rfl rfl rfl rfl (by repeat (exact BuildP.nil))) rfl ?_)))) | (with_reducible first | apply Tr.next | apply Tr.seq | apply Tr.region | apply Tr.nil) | (refine Tr.guard_n' rfl rfl rfl (by (with_reducible assumption)) rfl rfl ?_) | (with_reducible first | apply Tr.ret | apply Tr.then_ret) | (refine Tr.cond_bt rfl (by (with_reducible rfl)) ?_)))
    (refine Tr.done (by first | exact .inl rfl | exact .inr rfl) rfl (by repeat (first | exact RVs.nil | (apply RVs.cons; (first | exact RV.tmp rfl | exact RV.cellW (by rfl) (tysOk.get (by rfl)) (by rfl) (by repeat (first | exact Has.here | apply Has.there)) (by first | rfl | assumption))))) (by first | exact Mem.le.refl _ | assumption) (by exact ⟨[_], rfl⟩) ⟨rfl, ?_⟩)
    rfl
  by_cases c4 : (bs.length : Int) < 6 + (m : Int) + 4
  · rw [if_pos (.inr (by omega))]
    (repeat (first | ((with_reducible refine Tr.step rfl ?_); (first | (refine xmQ (z := ?_)) | (refine xaQ (z := ?_)) | (refine xiQ (z := ?_)) | ((with_reducible refine Knd.pick ?_); (refine Exec.stab rfl (Stab.pick_fd rfl (by (with_reducible assumption)) rfl) rfl ?_)) | (refine xWQ (z := ?_)) | ((with_reducible refine Knd.build ?_); (refine Exec.stab rfl (Stab.build tysOk rfl rfl rfl rfl (by repeat (exact BuildP.nil))) rfl ?_)))) | (with_reducible first | apply Tr.next | apply Tr.seq | apply Tr.region | apply Tr.nil) | ((refine Tr.guard_y' rfl rfl rfl (by (with_reducible assumption)) ?_); (first | (refine xmQ (z := ?_)) | (refine xnQ (z := ?_)) | ((with_reducible refine Knd.binOp ?_); (first | (refine xdQ (z := ?_)) | (refine xiQ (z := ?_)))))) | (with_reducible first | apply Tr.ret | apply Tr.then_ret) | (refine Tr.cond_t rfl (by (with_reducible assumption)) ?_)))
    (refine Tr.done (by first | exact .inl rfl | exact .inr rfl) rfl (by repeat (first | exact RVs.nil | (apply RVs.cons; (first | exact RV.tmp rfl | exact RV.cellW (by rfl) (tysOk.get (by rfl)) (by rfl) (by repeat (first | exact Has.here | apply Has.there)) (by first | rfl | assumption))))) (by first | exact Mem.le.refl _ | assumption) (by exact ⟨[_], rfl⟩) ⟨rfl, ?_⟩)
    rfl
  rw [if_neg (by omega)]
  generalize ho : (if (TF (bs.take (6 + m))).take 4 = (bs.drop (6 + m)).take 4 then some ((⟨((bs.getD 1 0).toNat : Int), (bs.drop 6).take m⟩ : Frm), m + 10) else none) = o
  have hpl : (bs.take (6 + m)).length = 6 + m := by rw [List.length_take]; omega
  have hpre : BSl M (.slice A (bs.take (6 + m)).length c) (bs.take (6 + m)) := by rw [hpl]; exact hb.pre (k := 6 + m) (m := c) (by omega) (by omega) (by omega)
  have e6 : (6 + (m : Int)).toNat = 6 + m := by omega
  have e64 : (6 + (m : Int) + 4).toNat = 6 + m + 4 := by omega
  (repeat (first | ((with_reducible refine Tr.step rfl ?_); (first | (refine xmQ (z := ?_)) | (refine xaQ (z := ?_)) | ((with_reducible refine Knd.binOp ?_); (first | (refine xdQ (z := ?_)) | (refine xiQ (z := ?_)))) | ((with_reducible refine Knd.pick ?_); (refine Exec.stab rfl (Stab.pick_fd rfl (by (with_reducible assumption)) rfl) rfl ?_)) | ((with_reducible refine Knd.slice ?_); (refine Exec.stab rfl (Stab.slice_h rfl rfl (tysOk.get rfl) rfl (tysOk.get rfl) (by omega) (by omega)) rfl ?_)))) | (with_reducible first | apply Tr.next | apply Tr.seq | apply Tr.region | apply Tr.nil) | ((refine Tr.guard_y' rfl rfl rfl (by (with_reducible assumption)) ?_); (first | (refine xmQ (z := ?_)) | (refine xnQ (z := ?_)) | ((with_reducible refine Knd.binOp ?_); (first | (refine xdQ (z := ?_)) | (refine xiQ (z := ?_)))))) | (with_reducible refine Tr.skip ?_) | (refine Tr.cond_f rfl (by (with_reducible assumption)) ?_)))
  rw [e6, ← hpl]
  ((refine Tr.step rfl ?_)); refine Exec.call0 rfl (Dg.tagged_fn M hK fTag (by decide) A c (bs.take (6 + m)) hpre (by omega)) rfl ?_
  rintro _ M1 hm1 rfl
  have htl := TF_len (bs.take (6 + m))
  show Tr _ ⟨_, (56, .agg (byteV (TF (bs.take (6 + m)))).toArray) :: _, _, _, _⟩ _
  have hbl : (byteV (TF (bs.take (6 + m)))).length = 32 := by simpa using htl
  generalize TF (bs.take (6 + m)) = d at htl hbl ho ⊢
  (repeat (first | ((with_reducible refine Tr.step rfl ?_); (first | ((with_reducible refine Knd.store ?_); (refine Exec.storeW rfl rfl (tysOk.get rfl) (by repeat (first | exact Upd.here | apply Upd.there)) (by first | rfl | assumption) (by first | rfl | assumption) (by exact AllOne.bytes _) ?_)) | ((with_reducible refine Knd.alloc ?_); (refine Exec.alloc (tysOk.get rfl) rfl rfl (fun b => ?_))))) | (with_reducible first | apply Tr.next | apply Tr.seq | apply Tr.nil)))
  generalize b = b7
  refine pbQ (r := box b7 _ _) (k := fun M2 hm2 hok2 => ?_)
  have hd := BSl.ofBox hok2 (by omega)
  rw [htl] at hd
  have hm02 := hm1.trans hm2
  have hd4 := hd.pre (k := 4) (m := 32) (by omega) (by omega) (Nat.le_refl _)
  have ht4 := (hb.mono hm02).sub (l := 6 + m) (k := 6 + m + 4) (m := c) (by omega) (by omega) (by omega) (Nat.le_refl _)
  rw [show 6 + m + 4 - (6 + m) = 4 by omega] at ht4
  (((apply Tr.draw); (kernel_rfl)); (refine tkQ 0 (hB := by exact fun _ h => h) (s := by exact Stab.sliceArrH rfl rfl (tysOk.get rfl) rfl (tysOk.get rfl) rfl (by omega) (by omega)) (h := ?_)); (refine tkQ 1 (s := by exact Stab.move rfl) (h := ?_)); (refine tkQ 2 (s := by exact Stab.move rfl) (h := ?_)); (refine tkQ 3 (s := by exact Stab.move rfl) (h := ?_)); (refine tkQ 4 (s := by exact Stab.addi rfl rfl (by omega)) (h := ?_)); (refine tkQ 5 (s := by exact Stab.slice_lh rfl rfl rfl (tysOk.get rfl) rfl (tysOk.get rfl) rfl (by omega) (by omega) (by omega)) (h := ?_)))
  rw [e6, e64, show 6 + m + 4 - (6 + m) = 4 by omega]
  ((refine TrA.eff 6 rfl (by kernel_rfl) (by exact .inl rfl) ?_))
  refine Exec.call0 rfl (bequal_fn M2 _ _ _ _ _ _ (d.take 4) ((bs.drop (6 + m)).take 4) hd4 ht4) rfl ?_
  rintro _ _ _ ⟨rfl, rfl⟩
  refine ⟨Mem.le.refl _, (by exact fun _ h => h), ?_⟩
  ((refine tkQ 7 (s := by exact Stab.notd rfl) (h := ?_)); (refine TrA.done (by kernel_rfl) ?_))
  by_cases c5 : d.take 4 = (bs.drop (6 + m)).take 4
  rotate_left
  · rw [if_neg c5] at ho
    subst ho
    (repeat (first | ((with_reducible refine Tr.step rfl ?_); (first | (refine xaQ (z := ?_)) | (refine xWQ (z := ?_)) | ((with_reducible refine Knd.build ?_); (refine Exec.stab rfl (Stab.build tysOk rfl rfl rfl rfl (by repeat (exact BuildP.nil))) rfl ?_)))) | (with_reducible first | apply Tr.next | apply Tr.seq | apply Tr.region | apply Tr.nil | apply Tr.ret | apply Tr.then_ret) | (refine Tr.cond_t rfl (by (with_reducible assumption)) ?_)))
    (refine Tr.done (by first | exact .inl rfl | exact .inr rfl) rfl (by repeat (first | exact RVs.nil | (apply RVs.cons; (first | exact RV.tmp rfl | exact RV.cellW (by rfl) (tysOk.get (by rfl)) (by rfl) (by repeat (first | exact Has.here | apply Has.there)) (by first | rfl | assumption))))) (by first | exact Mem.le.refl _ | assumption) (by exact ⟨[_], rfl⟩) ⟨rfl, ?_⟩)
    rfl
  rw [if_pos c5] at ho
  subst ho
  have c5n : ¬ ¬ d.take 4 = (bs.drop (6 + m)).take 4 := fun h => h c5
  have hbody := (hb.mono hm02).sub (l := 6) (k := 6 + m) (m := c) (by omega) (by omega) (by omega) (Nat.le_refl _)
  rw [show 6 + m - 6 = m by omega] at hbody
  have hbl2 : ((bs.drop 6).take m).length = m := by rw [List.length_take, List.length_drop]; omega
  replace h1 := h1.mono hm02
  (repeat (first | (with_reducible first | apply Tr.next | apply Tr.seq | apply Tr.skip) | (refine Tr.cond_f rfl (by (with_reducible assumption)) ?_)))
  (((apply Tr.draw ([] ++ F)); (kernel_rfl)); (refine tkQ 0 (hB := by exact (Sub.mem (by repeat (first | exact Sub.refl | apply Sub.cons)))) (s := by exact Stab.move rfl) (h := ?_)); (refine tkQ 4 (s := by exact Stab.move rfl) (h := ?_)); (refine tkQ 5 (s := by exact Stab.move rfl) (h := ?_)); (refine tkQ 9 (s := by exact Stab.move rfl) (h := ?_)); (refine tkQ 1 (s := by exact sxQ) (h := ?_)); (refine tkQ 6 (s := by exact Stab.slice_lh rfl rfl rfl (tysOk.get rfl) rfl (tysOk.get rfl) rfl (by omega) (by omega) (by omega)) (h := ?_)); (refine tkQ 10 (s := by exact Stab.addi rfl rfl (by omega)) (h := ?_)); (refine tkQ 2 (s := by exact sMQ) (h := ?_)); (refine tkQ 3 (s := by exact Stab.convi rfl (tysOk.get rfl) (tysOk.get rfl) rfl rfl (by omega)) (h := ?_)))
  rw [e6, show 6 + m - Int.toNat 6 = m by show 6 + m - 6 = m; omega]
  ((refine TrA.eff 7 rfl (by kernel_rfl) (by exact .inl rfl) ?_))
  refine Exec.call0 rfl (cloneB_fn M2 _ _ _ ((bs.drop 6).take m) hbody (by omega)) rfl ?_
  rintro _ M3 hm3 ⟨A3, c3', rfl, hb3⟩
  refine ⟨hm3, (by exact (Sub.mem (by repeat (first | exact Sub.refl | apply Sub.cons)))), ?_⟩
  ((refine tkQ 8 (s := by exact Stab.build tysOk rfl rfl rfl rfl (by repeat (first | exact BuildP.nil | ((apply BuildP.one); (rfl); (rfl); (first | rfl | assumption); (repeat (first | exact SetL.z | apply SetL.s)))))) (h := ?_)); (refine TrA.eff 11 rfl (by kernel_rfl) (by exact .inl rfl) ?_); (((refine Knd.store ?_); ((refine xWQ (z := ?_))))); (refine ⟨(by first | exact Mem.le.refl _ | assumption), (by exact (Sub.mem (by repeat (first | exact Sub.refl | apply Sub.cons)))), ?_⟩); (refine tkQ 12 (s := by exact Stab.assign rfl) (h := ?_)); (refine tkQ 13 (s := by exact Stab.assign rfl) (h := ?_)); (refine TrA.done (by kernel_rfl) ?_))
  have hm03 := hm02.trans hm3
  rw [show (6 + (m : Int) + 4) = ((m + 10 : Nat) : Int) by omega]
  (repeat (first | (with_reducible first | apply Tr.next | apply Tr.ret)))
  (refine Tr.done (by first | exact .inl rfl | exact .inr rfl) rfl (by repeat (first | exact RVs.nil | (apply RVs.cons; (first | exact RV.tmp rfl | exact RV.cellW (by rfl) (tysOk.get (by rfl)) (by rfl) (by repeat (first | exact Has.here | apply Has.there)) (by first | rfl | assumption))))) (by first | exact Mem.le.refl _ | assumption) (by exact ⟨[_], rfl⟩) ⟨rfl, ?_⟩)
  exact ⟨A3, c3', rfl, hb3⟩
end Go.Proofs.YtghjhdbmkilakaaGreatDoor

/-
  Frames: the frames that bytes begin with, one after the other.
  Conditions: none.
-/
namespace Go.Proofs.YtghjhdbmkilakaaGreatDoor
open Go Bf
attribute [local irreducible] Tr Exec Stab HasTy Go.Addr.add IntKind.wrap
theorem bsl_from {M : Mem} {A : Option Addr} {c i : Nat} {bs : List UInt8} (hb : BSl M (.slice A bs.length c) bs) (hi : i ≤ bs.length) : BSl M (.slice (if c = i then A else A.map (·.add (i * 1))) (bs.drop i).length (c - i)) (bs.drop i) := by
  have hc := hb.cap
  have := hb.sub (l := i) (k := bs.length) (m := c) hi (Nat.le_refl _) hc.1 (Nat.le_refl _)
  rw [List.take_of_length_le (by rw [List.length_drop]; omega)] at this
  rw [List.length_drop]
  exact this
set_option maxHeartbeats 1000000 in
theorem whole_fn (M : Mem) (A : Option Addr) (n c : Nat) :
    Bf.Fn Tryz.prog 38 [.slice A n c] M [] (fun r M' A' => ∃ b, r = .func (.func 71) #[] #[.pointer (some ⟨b, 0, none⟩)] ∧ M = M' ∧ A' = [box b 28 [.slice A n c]]) := by
  refine Fn.intro Tryz.func38 rfl rfl Tryz.ntmps38 rfl fun E F => ?_
  (repeat (first | ((with_reducible refine Tr.step rfl ?_); (first | (refine xaQ (z := ?_)) | ((with_reducible refine Knd.makeFunc ?_); (refine Exec.stab rfl (Stab.makeFunc rfl rfl) rfl ?_)) | ((with_reducible refine Knd.box ?_); (refine Exec.box1 rfl (by first | rfl | assumption) rfl (fun b => ?_))))) | (with_reducible first | apply Tr.next | apply Tr.seq | apply Tr.region | apply Tr.nil | apply Tr.ret)))
  refine Tr.doneA (A' := [box _ 28 [.slice A n c]]) (by first | exact .inl rfl | exact .inr rfl) rfl (by repeat (first | exact RVs.nil | (apply RVs.cons; (exact RV.tmp rfl)))) (Mem.le.refl _) ⟨fun _ h => h, fun h => h⟩ ⟨_, rfl, rfl, rfl⟩
set_option maxHeartbeats 4000000 in
theorem whole1_fn (M : Mem) (hK : Tab M) (A : Option Addr) (c lab b0 : Nat) (bs : List UInt8) (hb : BSl M (.slice A bs.length c) bs)
    (J : List Frm → Nat → Mem → List Res → Prop) (A0 A1 : List Res) (hJ : J [] 0 M A0) (hA : (box b0 28 [.slice A bs.length c] :: A0).Perm A1) (hmono : ∀ ys e M1 M2 A', Mem.le M1 M2 → J ys e M1 A' → J ys e M2 A')
    (hy : ∀ ys e y n M1 A' A2 k2, Mem.le M M1 → (∃ zs, ys ++ y :: zs = (readF TF bs).1) → n = y.body.length + 10 → e + n ≤ bs.length → okF y → BSl M1 (.slice A2 y.body.length k2) y.body → J ys e M1 A' →
      Yl Tryz.prog lab [.int .i64 ((e + n : Nat) : Int), .agg #[.int .i64 y.kind, .slice A2 y.body.length k2]] M1 A' (fun r M2 A'' => r = .bool true ∧ J (ys ++ [y]) (e + n) M2 A'')) :
    Bf.Fn Tryz.prog 71 [yv lab, .pointer (some ⟨b0, 0, none⟩)] M A1 (fun _ M' A' => J (readF TF bs).1 (readF TF bs).2 M' A') := by
  have hl := hb.len_le
  have hcap := hb.cap
  refine Fn.intro Tryz.func71 rfl rfl Tryz.ntmps71 rfl fun E F => ?_
  refine Tr.perm (L' := box b0 28 [.slice A bs.length c] :: (A0 ++ F)) (hA.append_right F) ?_
  (repeat (first | ((with_reducible refine Tr.step rfl ?_); (with_reducible refine Knd.assign ?_); (refine xaQ (z := ?_))) | (with_reducible first | apply Tr.next | apply Tr.seq | apply Tr.region | apply Tr.nil | apply Tr.block)))
  refine Tr.loop (α := Nat × List Frm × Mem × List Res) (fun y => ⟨25, [(3, .int .i64 (y.1 : Int)), (0, yv lab), (1, .pointer (some ⟨b0, 0, none⟩))], [], y.2.2.1, box b0 28 [.slice A bs.length c] :: (y.2.2.2 ++ F)⟩)
    (fun y => y.1 ≤ bs.length ∧ Mem.le M y.2.2.1 ∧ y.2.1 ++ (readF TF (bs.drop y.1)).1 = (readF TF bs).1 ∧ y.1 + (readF TF (bs.drop y.1)).2 = (readF TF bs).2 ∧ J y.2.1 y.1 y.2.2.1 y.2.2.2) (fun y => bs.length - y.1) (0, [], M, A0)
    ⟨Nat.zero_le _, Mem.le.refl _, by simp, by simp, hJ⟩ hsQ (fun y hy1 => ?_)
  obtain ⟨e, ys, M1, A'⟩ := y
  obtain ⟨i1, hm1, i3, i4, hJ1⟩ := hy1
  dsimp only at i1 hm1 i3 i4 hJ1 ⊢
  have hd := bsl_from (hb.mono hm1) i1
  have hdl : (bs.drop e).length = bs.length - e := List.length_drop
  (repeat (first | ((with_reducible refine Tr.step rfl ?_); (first | (refine xmQ (z := ?_)) | (refine xlQ (z := ?_)) | ((with_reducible refine Knd.slice ?_); (refine Exec.stab rfl (Stab.slice_l rfl rfl (tysOk.get rfl) rfl (tysOk.get rfl) rfl (by omega) (by omega)) rfl ?_)))) | (with_reducible first | apply Tr.seq | apply Tr.region | apply Tr.block)))
  rw [show bs.length - ((e : Int)).toNat = (bs.drop e).length by rw [hdl]; rfl]
  ((refine Tr.step rfl ?_)); refine Exec.call0 rfl (first_fn M1 (hK.mono hm1) _ _ (bs.drop e) hd) rfl ?_
  intro r M2 hm2 hR
  have hm02 := hm1.trans hm2
  cases ef : firstF TF (bs.drop e) with
  | none =>
    rw [ef] at hR
    obtain rfl := hR
    rw [read_none ef] at i3 i4
    simp only [List.append_nil, Nat.add_zero] at i3 i4
    subst i4
    subst i3
    (repeat (first | ((with_reducible refine Tr.step rfl ?_); (first | (refine xmQ (z := ?_)) | (refine xaQ (z := ?_)) | ((with_reducible refine Knd.unOp ?_); (refine Exec.stab rfl (Stab.not rfl) rfl ?_)) | (refine xWQ (z := ?_)) | ((with_reducible refine Knd.alloc ?_); (refine Exec.alloc (tysOk.get rfl) rfl rfl (fun b => ?_))) | ((with_reducible refine Knd.extract ?_); (refine Exec.stab rfl (Stab.extract rfl rfl) rfl ?_)))) | (with_reducible first | apply Tr.next | apply Tr.seq | apply Tr.region | apply Tr.nil | apply Tr.ret | apply Tr.then_ret | apply Tr.in_ret) | (refine Tr.cond_bt rfl (by first | (with_reducible rfl) | (with_reducible assumption) | (with_reducible exact Bool.not_true) | (with_reducible exact Bool.not_false)) ?_)))
    refine Tr.less [] (A' ++ F) (by repeat (first | exact SubFr.nil | refine SubFr.cons rfl ?_)) (by repeat (first | exact DropL.refl | apply DropL.skip)) ?_
    refine Tr.doneA (A' := A') (by first | exact .inl rfl | exact .inr rfl) rfl (by repeat (exact RVs.nil)) hm02 ⟨fun _ h => h, fun h => h⟩ (hmono _ _ M1 M2 A' hm2 hJ1)
  | some x =>
    obtain ⟨f, n⟩ := x
    rw [ef] at hR
    obtain ⟨A2, k2, rfl, hb2⟩ := hR
    obtain ⟨o1, o2, o3, -⟩ := first_some ef
    rw [read_cons ef] at i3 i4
    simp only at i3 i4
    rw [List.drop_drop] at i3 i4
    rw [hdl] at o3
    have ea : (e : Int) + (n : Int) = ((e + n : Nat) : Int) := by omega
    have hJ2 := hmono _ _ M1 M2 A' hm2 hJ1
    have hyy := hy ys e f n M2 A' A2 k2 hm02 ⟨_, i3⟩ o2 (by omega) o1 hb2 hJ2
    (repeat (first | ((with_reducible refine Tr.step rfl ?_); (first | (refine xmQ (z := ?_)) | (refine xaQ (z := ?_)) | (refine xwQ (z := ?_)) | (refine xdQ (z := ?_)) | ((with_reducible refine Knd.unOp ?_); (refine Exec.stab rfl (Stab.not rfl) rfl ?_)) | (refine xWQ (z := ?_)) | ((with_reducible refine Knd.alloc ?_); (refine Exec.alloc (tysOk.get rfl) rfl rfl (fun b => ?_))) | ((with_reducible refine Knd.extract ?_); (refine Exec.stab rfl (Stab.extract rfl rfl) rfl ?_)))) | (with_reducible first | apply Tr.next | apply Tr.seq | apply Tr.region | apply Tr.nil | apply Tr.skip) | (refine Tr.cond_bf rfl (by first | (with_reducible rfl) | (with_reducible assumption) | (with_reducible exact Bool.not_true) | (with_reducible exact Bool.not_false)) ?_)))
    rw [ea]
    refine gvQ (r := box _ 40 _) (k := ?_)
    ((refine Tr.step rfl ?_))
    refine Exec.yield (F := box b0 28 [.slice A bs.length c] :: F) rfl rfl hyy List.perm_middle rfl ?_
    rintro _ M3 A'' hm3 ⟨rfl, hJ3⟩
    refine Tr.perm (L' := box b0 28 [.slice A bs.length c] :: (A'' ++ F)) List.perm_middle.symm ?_
    (repeat (first | ((with_reducible refine Tr.step rfl ?_); (with_reducible refine Knd.unOp ?_); (refine Exec.stab rfl (Stab.not rfl) rfl ?_)) | (with_reducible first | apply Tr.next | apply Tr.nil | apply Tr.skip | apply Tr.in_normal) | (refine Tr.cond_bf rfl (by first | (with_reducible rfl) | (with_reducible assumption) | (with_reducible exact Bool.not_true) | (with_reducible exact Bool.not_false)) ?_)))
    refine Tr.again (e + n, ys ++ [f], M3, A'') ⟨by simp only; omega, hm02.trans hm3, ?_, ?_, hJ3⟩ (by simp only; omega) hsQ
    · simp only
      rw [List.append_assoc]
      exact i3
    · simp only
      omega
end Go.Proofs.YtghjhdbmkilakaaGreatDoor

/-
  Frames: the contracts of Read and Scan.
  Conditions: none.
-/
namespace Go.Proofs.YtghjhdbmkilakaaGreatDoor
open Go Bf
attribute [local irreducible] Tr Exec Stab HasTy Go.Addr.add IntKind.wrap
/-- frames and something more, as a result -/
def RRead (M : Mem) (r : Value) (bs : List UInt8) : Prop := ∃ B k A c, r = .tuple #[.slice B (readF TF bs).1.length k, .slice A (bs.drop (readF TF bs).2).length c] ∧ RFrms M (.slice B (readF TF bs).1.length k) (readF TF bs).1 ∧ BSl M (.slice A (bs.drop (readF TF bs).2).length c) (bs.drop (readF TF bs).2)
theorem okF_i64 {f : Frm} (h : okF f) : -9223372036854775808 ≤ f.kind ∧ f.kind ≤ 9223372036854775807 := by
  obtain ⟨⟨h1, h2⟩, -⟩ := h
  omega
set_option maxHeartbeats 4000000 in
theorem read_fn (M : Mem) (hK : Tab M) (A : Option Addr) (c : Nat) (bs : List UInt8) (hb : BSl M (.slice A bs.length c) bs) (hl : bs.length ≤ 1000000000) :
    Fn0 Tryz.prog 14 [.slice A bs.length c] M (fun r M' => RRead M' r bs) := by
  obtain ⟨s1, s2, s3, s4, s5, s6⟩ := read_spec (T := TF) _ bs (Nat.le_refl _)
  refine Fn.introM Tryz.func14 rfl rfl Tryz.ntmps14 rfl fun E F => ?_
  (repeat (first | ((with_reducible refine Tr.step rfl ?_); (first | (refine xmQ (z := ?_)) | (refine xaQ (z := ?_)) | (refine xSQ (z := ?_)) | ((with_reducible refine Knd.alloc ?_); (refine Exec.alloc1 (tysOk.get rfl) rfl rfl rfl (fun b => ?_))))) | (with_reducible first | apply Tr.next | apply Tr.seq | apply Tr.region | apply Tr.nil)))
  generalize b = bat
  rename_i bl
  ((refine Tr.step rfl ?_))
  refine Exec.call (A := []) rfl (whole_fn M A bs.length c) (List.Perm.refl _) rfl ?_
  rintro _ M' _ _ ⟨b0, rfl, rfl, rfl⟩
  (repeat (first | (with_reducible first | apply Tr.next | apply Tr.nil | apply Tr.block)))
  refine Tr.own_nil 40 2 ?_
  refine Tr.rangeFunc' (A := [ownS 40 2 none 0 0 [], box b0 28 [.slice A bs.length c], box bat 3 [.int .i64 0], box bl 42 [.slice none 0 0]]) (F := F)
    (Rf := fun o M' A'' => o = none ∧ ∃ R rc cs, A'' = [ownS 40 2 R (readF TF bs).1.length rc cs, box bat 3 [.int .i64 ((readF TF bs).2 : Int)], box bl 42 [.slice R (readF TF bs).1.length rc]] ∧ Elems 2 RFrm M' cs (readF TF bs).1 ∧ rc ≤ 9223372036854775807) rfl (List.Perm.refl _) (fun lab dd lp p1 p2 p3 p4 p5 hfit => ?_) (fun dd M' A'' hm => ⟨?_, ?_⟩)
  · refine Bf.Fn.mono (whole1_fn M hK A c lab b0 bs hb
      (fun ys e M' A' => ∃ R rc cs, A' = [loopR lab lp, defR dd, ownS 40 2 R ys.length rc cs, box bat 3 [.int .i64 (e : Int)], box bl 42 [.slice R ys.length rc]] ∧ ys.length ≤ e ∧ Elems 2 RFrm M' cs ys ∧ rc ≤ 9223372036854775807)
      [loopR lab lp, defR dd, ownS 40 2 none 0 0 [], box bat 3 [.int .i64 0], box bl 42 [.slice none 0 0]] _ ⟨none, 0, [], rfl, Nat.le_refl _, Elems.nil, by omega⟩ ((List.perm_middle (l₁ := [loopR lab lp, defR dd, ownS 40 2 none 0 0 []])).symm) ?_ ?_) (fun v M' A' hm hR => ?_)
    · rintro ys e M1 M2 A' hm ⟨R, rc, cs, rfl, hle, hE, hc⟩
      exact ⟨R, rc, cs, rfl, hle, hE.mono RFrm.mono hm, hc⟩
    · rintro ys e y n M1 A' A2 k2 hm1 ⟨zs, hzs⟩ hn hen hok hby ⟨R, rc, cs, rfl, hle, hE, hc⟩
      refine Yl.intro (ps := [9, 10]) p3 rfl (by simp) hfit (by repeat (first | exact Has.here | apply Has.there)) (fun E F => ?_)
      rw [p4, p5]
      (repeat (first | ((with_reducible refine Tr.step rfl ?_); (first | (refine xaQ (z := ?_)) | (refine xWQ (z := ?_)) | ((with_reducible refine Knd.alloc ?_); (refine Exec.alloc (tysOk.get rfl) rfl rfl (fun b => ?_))))) | (with_reducible first | apply Tr.next | apply Tr.seq | apply Tr.region | apply Tr.nil)))
      refine Tr.begin (by repeat (first | exact Upd.here | apply Upd.there)) p1 ?_
      (repeat (first | ((with_reducible refine Tr.step rfl ?_); (first | ((with_reducible refine Knd.load ?_); (first | (refine xlQ (z := ?_)) | (refine xwQ (z := ?_)))) | ((with_reducible refine Knd.buildSlice ?_); (refine Exec.buildSlice (tysOk.get rfl) rfl (tysOk.get rfl) rfl rfl rfl rfl rfl (by repeat (first | exact BuildP.nil | ((apply BuildP.many); (rfl); (rfl); (rfl); (rfl); (repeat (first | exact PutL.nil | ((apply PutL.cons); (repeat (first | exact SetL.z | apply SetL.s)))))))) rfl (fun b => ?_))))) | (with_reducible first | apply Tr.seq | apply Tr.region | apply Tr.block)))
      ((refine Tr.step rfl ?_))
      refine Exec.append (A := R) (news := [.int .i64 y.kind, .slice A2 y.body.length k2]) rfl rfl (tysOk.get rfl) rfl (tysOk.get rfl) rfl rfl rfl rfl (by repeat (first | exact Del.here | apply Del.there)) (Src.box (by repeat (first | exact Has.here | apply Has.there))) rfl (by intro u hu; simp at hu; rcases hu with rfl | rfl <;> rfl) (by omega) (by omega) rfl (fun R2 rc2 hrc2 => ?_)
      refine gvQ (r := box _ 40 [_, _]) (k := ?_)
      (repeat (first | ((with_reducible refine Tr.step rfl ?_); (first | (refine xmQ (z := ?_)) | (refine xSQ (z := ?_)))) | (with_reducible first | apply Tr.next | apply Tr.region | apply Tr.nil | apply Tr.in_normal)))
      refine gvQ (r := box _ 40 [_, _]) (k := ?_)
      refine Tr.perm (L' := loopR lab { lp with state := .busy } :: defR dd :: ownS 40 2 R2 (ys.length + 1) rc2 (cs ++ [Value.int .i64 y.kind, .slice A2 y.body.length k2]) :: box bat 3 [.int .i64 ((e + n : Nat) : Int)] :: box bl 42 [.slice R2 (ys.length + 1) rc2] :: F) (List.perm_middle (l₁ := [loopR lab { lp with state := .busy }, defR dd])) ?_
      have e1 : ({ lp with state := .ready, pending := none } : Loop) = lp := by cases lp; simp_all
      refine Tr.round_normal (A' := [loopR lab { lp with state := .ready, pending := none }, defR dd, ownS 40 2 R2 (ys.length + 1) rc2 (cs ++ [Value.int .i64 y.kind, .slice A2 y.body.length k2]), box bat 3 [.int .i64 ((e + n : Nat) : Int)], box bl 42 [.slice R2 (ys.length + 1) rc2]]) (by repeat (first | exact Upd.here | apply Upd.there)) DropL.refl (Mem.le.refl _) ⟨rfl, R2, rc2, cs ++ [Value.int .i64 y.kind, .slice A2 y.body.length k2], ?_, ?_, hE.append (Elems.one rfl ⟨A2, k2, rfl, hby, okF_i64 hok⟩), hrc2⟩
      · rw [e1, List.length_append, List.length_singleton]
      · rw [List.length_append, List.length_singleton]; omega
    · obtain ⟨R, rc, cs, rfl, -, hE, hc⟩ := hR
      exact ⟨lp, _, rfl, by rw [p1]; decide, p2, R, rc, cs, rfl, hE, hc⟩
  · rintro ⟨-, R, rc, cs, rfl, hE, hc⟩
    have hfr := bsl_from hb s2
    have hfl : (bs.drop (readF TF bs).2).length = bs.length - (readF TF bs).2 := List.length_drop
    unfold RRead
    generalize readF TF bs = q at s1 s2 hE hfr hfl ⊢
    refine pbQ (r := ownS 40 2 R _ _ _) (k := fun M2 hm2 hok => ?_)
    have hm02 := hm.trans hm2
    (repeat (first | (with_reducible first | apply Tr.next | apply Tr.seq | apply Tr.in_normal)))
    refine Tr.cut (α := Option Addr × Nat × Mem) (fun y => ⟨21, [(3, .slice y.1 (bs.drop q.2).length y.2.1), (2, .pointer (some ⟨bl, 0, none⟩))], [coll dd], y.2.2, defR dd :: box bat 3 [.int .i64 (q.2 : Int)] :: box bl 42 [.slice R q.1.length rc] :: F⟩)
      (fun y => Mem.le M2 y.2.2 ∧ BSl y.2.2 (.slice y.1 (bs.drop q.2).length y.2.1) (bs.drop q.2)) ?_ (fun y hy => ?_)
    · (((apply Tr.draw); (kernel_rfl)); (refine tkQ 0 (hB := by exact fun _ h => h) (s := by exact slQ) (h := ?_)); (refine tkQ 1 (s := by exact Stab.move rfl) (h := ?_)); (refine tkQ 2 (s := by exact slQ) (h := ?_)); (refine tkQ 3 (s := by exact Stab.slice_l rfl rfl (tysOk.get rfl) rfl (tysOk.get rfl) rfl (by omega) (by omega)) (h := ?_)))
      rw [show bs.length - ((q.2 : Int)).toNat = (bs.drop q.2).length by rw [hfl]; rfl]
      ((refine TrA.eff 4 rfl (by kernel_rfl) (by exact .inl rfl) ?_))
      refine Exec.call0 rfl (cloneB_fn M2 _ _ _ (bs.drop q.2) (hfr.mono hm02) (by omega)) rfl ?_
      rintro _ M3 hm3 ⟨A3, c3', rfl, hb3⟩
      refine ⟨hm3, (by exact fun _ h => h), ?_⟩
      ((refine TrA.eff 5 rfl (by kernel_rfl) (by exact .inl rfl) ?_); (((refine Knd.store ?_); ((refine xSQ (z := ?_))))); (refine ⟨(by first | exact Mem.le.refl _ | assumption), (by exact fun _ h => h), ?_⟩); (refine tkQ 6 (s := by exact Stab.assign rfl) (h := ?_)); (refine TrA.done (by kernel_rfl) ?_))
      exact Tr.land (A3, c3', M3) ⟨hm3, hb3⟩ hsQ
    obtain ⟨A3, c3', M3⟩ := y
    obtain ⟨hm3, hb3⟩ := hy
    dsimp only at hm3 hb3 ⊢
    have hm03 := hm02.trans hm3
    (repeat (first | (with_reducible first | apply Tr.next | apply Tr.ret)))
    (refine Tr.doneM [_] rfl (by first | exact .inl rfl | exact .inr rfl) rfl (List.Perm.refl _) (by repeat (first | exact RVs.nil | (apply RVs.cons; (first | exact RV.tmp rfl | exact RV.cell (by rfl) (tysOk.get (by rfl)) (by rfl) (by repeat (first | exact Has.here | apply Has.there)))))) (by first | exact Mem.le.refl _ | assumption) (by exact ⟨[_, _], rfl⟩) ⟨rfl, ?_⟩)
    exact ⟨R, rc, A3, c3', rfl, (SlOf.ofOwn hok rfl hc (hE.mono RFrm.mono hm2)).mono RFrm.mono hm3, hb3⟩
  · rintro c ⟨h, -⟩
    cases h
/-- frames and a number, as a result -/
def RScan (M : Mem) (r : Value) (p : List Frm × Nat) : Prop := ∃ B k, r = .tuple #[.slice B p.1.length k, .int .i64 (p.2 : Int)] ∧ RFrms M (.slice B p.1.length k) p.1
set_option maxHeartbeats 4000000 in
theorem scan_fn (M : Mem) (hK : Tab M) (A : Option Addr) (c : Nat) (bs : List UInt8) (hb : BSl M (.slice A bs.length c) bs) (hl : bs.length ≤ 1000000000) :
    Fn0 Tryz.prog 15 [.slice A bs.length c] M (fun r M' => RScan M' r (scanF TF bs)) := by
  have hcap := hb.cap
  refine Fn.introM Tryz.func15 rfl rfl Tryz.ntmps15 rfl fun E F => ?_
  (repeat (first | ((with_reducible refine Tr.step rfl ?_); (first | (refine xaQ (z := ?_)) | ((with_reducible refine Knd.alloc ?_); (refine Exec.alloc1 (tysOk.get rfl) rfl rfl rfl (fun b => ?_))))) | (with_reducible first | apply Tr.next | apply Tr.seq | apply Tr.region | apply Tr.nil | apply Tr.block)))
  generalize b = bl
  refine Tr.own_nil 40 2 ?_
  refine Tr.loop (α := Nat × Nat × List Frm × Option Addr × Nat × List Value × Mem × List Nat) (fun y => ⟨32, [(4, .int .i64 (y.1 : Int)), (3, .int .i64 (y.2.1 : Int)), (2, .pointer (some ⟨bl, 0, none⟩)), (0, .slice A bs.length c)], y.2.2.2.2.2.2.2.map coll, y.2.2.2.2.2.2.1, ownS 40 2 y.2.2.2.1 y.2.2.1.length y.2.2.2.2.1 y.2.2.2.2.2.1 :: box bl 42 [.slice y.2.2.2.1 y.2.2.1.length y.2.2.2.2.1] :: (y.2.2.2.2.2.2.2.map defR ++ F)⟩)
    (fun y => y.1 ≤ bs.length ∧ y.2.1 ≤ y.1 ∧ y.2.2.1.length ≤ y.1 ∧ Mem.le M y.2.2.2.2.2.2.1 ∧ y.2.2.2.2.1 ≤ 9223372036854775807 ∧ Elems 2 RFrm y.2.2.2.2.2.2.1 y.2.2.2.2.2.1 y.2.2.1 ∧ y.2.2.1 ++ (scanF TF (bs.drop y.1)).1 = (scanF TF bs).1 ∧ y.2.1 + (scanF TF (bs.drop y.1)).2 = (scanF TF bs).2) (fun y => bs.length - y.1)
    (0, 0, [], none, 0, [], M, []) ⟨Nat.zero_le _, Nat.le_refl _, Nat.zero_le _, Mem.le.refl _, Nat.zero_le _, Elems.nil, by simp, by simp⟩ hsQ (fun y hy1 => ?_)
  obtain ⟨e, lost, ys, R, rc, cs, M1, ds⟩ := y
  obtain ⟨i1, i2, i3, hm1, hc, hE, i4, i5⟩ := hy1
  dsimp only at i1 i2 i3 hm1 hc hE i4 i5 ⊢
  by_cases hlt : e < bs.length
  rotate_left
  · have hd0 : bs.drop e = [] := List.drop_eq_nil_of_le (by omega)
    rw [hd0, scan_nil] at i4 i5
    simp only [List.append_nil, Nat.add_zero] at i4 i5
    refine pbQ (r := ownS 40 2 R _ _ _) (k := fun M2 hm2 hok => ?_)
    have hm02 := hm1.trans hm2
    have hS : RFrms M2 (.slice R ys.length rc) ys := SlOf.ofOwn hok rfl hc (hE.mono RFrm.mono hm2)
    clear hE
    subst i5
    rw [i4] at hS ⊢
    (repeat (first | ((with_reducible refine Tr.step rfl ?_); (first | (refine xmQ (z := ?_)) | (refine xaQ (z := ?_)) | (refine xlQ (z := ?_)) | (refine xnQ (z := ?_)) | (refine xiQ (z := ?_)) | (refine xSQ (z := ?_)))) | (with_reducible first | apply Tr.next | apply Tr.seq | apply Tr.region | apply Tr.nil | apply Tr.exit | apply Tr.ret | apply Tr.then_exit) | ((with_reducible refine Tr.in_exit ?_ ?_); (exact rfl)) | (refine Tr.cond_f rfl (by first | (with_reducible assumption) | omega) ?_)))
    refine Tr.doneM (L' := box bl 42 [.slice R (scanF TF bs).1.length rc] :: F) ds rfl (by first | exact .inl rfl | exact .inr rfl) rfl List.perm_middle.symm (by repeat (first | exact RVs.nil | (apply RVs.cons; (first | exact RV.tmp rfl | exact RV.cell (by rfl) (tysOk.get (by rfl)) (by rfl) (by repeat (first | exact Has.here | apply Has.there)))))) hm02 ⟨[_], rfl⟩ ⟨rfl, R, rc, rfl, hS⟩
  have hd := bsl_from (hb.mono hm1) i1
  have hdl : (bs.drop e).length = bs.length - e := List.length_drop
  obtain ⟨s1, s2, s3, s4, s5, s6⟩ := read_spec (T := TF) _ (bs.drop e) (Nat.le_refl _)
  (repeat (first | ((with_reducible refine Tr.step rfl ?_); (first | (refine xmQ (z := ?_)) | (refine xnQ (z := ?_)) | (refine xiQ (z := ?_)) | (refine xSQ (z := ?_)) | ((with_reducible refine Knd.alloc ?_); (refine Exec.alloc1 (tysOk.get rfl) rfl rfl rfl (fun b => ?_))) | ((with_reducible refine Knd.slice ?_); (refine Exec.stab rfl (Stab.slice_l rfl rfl (tysOk.get rfl) rfl (tysOk.get rfl) rfl (by omega) (by omega)) rfl ?_)))) | (with_reducible first | apply Tr.next | apply Tr.seq | apply Tr.region | apply Tr.nil | apply Tr.skip | apply Tr.block) | (refine Tr.cond_t rfl (by first | (with_reducible assumption) | omega) ?_)))
  rw [show bs.length - ((e : Int)).toNat = (bs.drop e).length by rw [hdl]; rfl]
  generalize b = bn
  ((refine Tr.step rfl ?_))
  refine Exec.call (A := []) rfl (whole_fn M1 _ _ _) (List.Perm.refl _) rfl ?_
  rintro _ M' _ _ ⟨b0, rfl, rfl, rfl⟩
  (repeat (first | (with_reducible first | apply Tr.next | apply Tr.nil | apply Tr.block)))
  rw [show ((e : Int)).toNat = e from rfl]
  generalize (if c = e then A else Option.map (fun x => x.add (e * 1)) A) = Ad at hd
  generalize c - e = cd at hd
  have hcd := hd.cap
  generalize hbd : bs.drop e = bd at hd hdl s1 s2 s3 s4 s5 s6 hcd i4 i5
  refine Tr.rangeFunc' (A := [box b0 28 [.slice Ad bd.length cd], box bn 3 [.int .i64 0], ownS 40 2 R ys.length rc cs, box bl 42 [.slice R ys.length rc]]) (F := ds.map defR ++ F)
    (Rf := fun o M' A'' => o = none ∧ ∃ R rc cs, A'' = [box bn 3 [.int .i64 ((readF TF bd).2 : Int)], ownS 40 2 R (ys ++ (readF TF bd).1).length rc cs, box bl 42 [.slice R (ys ++ (readF TF bd).1).length rc]] ∧ Elems 2 RFrm M' cs (ys ++ (readF TF bd).1) ∧ (readF TF bd).1.length ≤ (readF TF bd).2 ∧ rc ≤ 9223372036854775807) rfl (List.Perm.refl _) (fun lab dd lp p1 p2 p3 p4 p5 hfit => ?_) (fun dd M' A'' hm => ⟨?_, ?_⟩)
  · refine Bf.Fn.mono (whole1_fn M1 (hK.mono hm1) Ad cd lab b0 bd hd
      (fun zs e' M' A' => ∃ R rc cs, A' = [loopR lab lp, defR dd, box bn 3 [.int .i64 (e' : Int)], ownS 40 2 R (ys ++ zs).length rc cs, box bl 42 [.slice R (ys ++ zs).length rc]] ∧ zs.length ≤ e' ∧ Elems 2 RFrm M' cs (ys ++ zs) ∧ rc ≤ 9223372036854775807)
      [loopR lab lp, defR dd, box bn 3 [.int .i64 0], ownS 40 2 R ys.length rc cs, box bl 42 [.slice R ys.length rc]] _ ⟨R, rc, cs, by rw [List.append_nil]; rfl, Nat.le_refl _, by rw [List.append_nil]; exact hE, hc⟩ ((List.perm_middle (l₁ := [loopR lab lp, defR dd])).symm) ?_ ?_) (fun v M' A' hm hR => ?_)
    · rintro zs e' M1 M2 A' hm ⟨R, rc, cs, rfl, hle, hE, hc⟩
      exact ⟨R, rc, cs, rfl, hle, hE.mono RFrm.mono hm, hc⟩
    · rintro zs e' y n M3 A' A2 k2 hm3 ⟨us, hus⟩ hn hen hok hby ⟨R3, rc3, cs3, rfl, hle, hE3, hc3⟩
      have hyl : (ys ++ zs).length ≤ e + e' := by rw [List.length_append]; omega
      have hyl2 : (ys ++ (zs ++ [y])).length = (ys ++ zs).length + 1 := by rw [← List.append_assoc, List.length_append, List.length_singleton]
      refine Yl.intro (ps := [16, 17]) p3 rfl (by simp) hfit (by repeat (first | exact Has.here | apply Has.there)) (fun E F => ?_)
      rw [p4, p5]
      generalize hgz : (ys ++ zs).length = Z at hyl hyl2
      (repeat (first | ((with_reducible refine Tr.step rfl ?_); (first | (refine xaQ (z := ?_)) | (refine xWQ (z := ?_)) | ((with_reducible refine Knd.alloc ?_); (refine Exec.alloc (tysOk.get rfl) rfl rfl (fun b => ?_))))) | (with_reducible first | apply Tr.next | apply Tr.seq | apply Tr.region | apply Tr.nil)))
      refine Tr.begin (by repeat (first | exact Upd.here | apply Upd.there)) p1 ?_
      (repeat (first | ((with_reducible refine Tr.step rfl ?_); (first | ((with_reducible refine Knd.load ?_); (first | (refine xlQ (z := ?_)) | (refine xwQ (z := ?_)))) | ((with_reducible refine Knd.buildSlice ?_); (refine Exec.buildSlice (tysOk.get rfl) rfl (tysOk.get rfl) rfl rfl rfl rfl rfl (by repeat (first | exact BuildP.nil | ((apply BuildP.many); (rfl); (rfl); (rfl); (rfl); (repeat (first | exact PutL.nil | ((apply PutL.cons); (repeat (first | exact SetL.z | apply SetL.s)))))))) rfl (fun b => ?_))))) | (with_reducible first | apply Tr.seq | apply Tr.region | apply Tr.block)))
      ((refine Tr.step rfl ?_))
      refine Exec.append (A := R3) (news := [.int .i64 y.kind, .slice A2 y.body.length k2]) rfl rfl (tysOk.get rfl) rfl (tysOk.get rfl) rfl rfl rfl rfl (by repeat (first | exact Del.here | apply Del.there)) (Src.box (by repeat (first | exact Has.here | apply Has.there))) rfl (by intro u hu; simp at hu; rcases hu with rfl | rfl <;> rfl) (by omega) (by omega) rfl (fun R2 rc2 hrc2 => ?_)
      refine gvQ (r := box _ 40 [_, _]) (k := ?_)
      (repeat (first | ((with_reducible refine Tr.step rfl ?_); (first | (refine xmQ (z := ?_)) | (refine xSQ (z := ?_)))) | (with_reducible first | apply Tr.next | apply Tr.region | apply Tr.nil | apply Tr.in_normal)))
      refine gvQ (r := box _ 40 [_, _]) (k := ?_)
      have e1 : ({ lp with state := .ready, pending := none } : Loop) = lp := by cases lp; simp_all
      refine Tr.perm (L' := loopR lab { lp with state := .busy } :: defR dd :: box bn 3 [.int .i64 ((e' + n : Nat) : Int)] :: ownS 40 2 R2 (Z + 1) rc2 (cs3 ++ [Value.int .i64 y.kind, .slice A2 y.body.length k2]) :: box bl 42 [.slice R2 (Z + 1) rc2] :: F) (List.perm_middle (l₁ := [loopR lab { lp with state := .busy }, defR dd, box bn 3 [.int .i64 ((e' + n : Nat) : Int)]])) ?_
      refine Tr.round_normal (A' := [loopR lab { lp with state := .ready, pending := none }, defR dd, box bn 3 [.int .i64 ((e' + n : Nat) : Int)], ownS 40 2 R2 (Z + 1) rc2 (cs3 ++ [Value.int .i64 y.kind, .slice A2 y.body.length k2]), box bl 42 [.slice R2 (Z + 1) rc2]]) (by repeat (first | exact Upd.here | apply Upd.there)) DropL.refl (Mem.le.refl _) ⟨rfl, R2, rc2, cs3 ++ [Value.int .i64 y.kind, .slice A2 y.body.length k2], ?_, ?_, ?_, hrc2⟩
      · rw [e1, hyl2]
      · rw [List.length_append, List.length_singleton]; omega
      · rw [← List.append_assoc]
        exact hE3.append (Elems.one rfl ⟨A2, k2, rfl, hby, okF_i64 hok⟩)
    · obtain ⟨R, rc, cs, rfl, hle, hE, hc⟩ := hR
      exact ⟨lp, _, rfl, by rw [p1]; decide, p2, R, rc, cs, rfl, hE, hle, hc⟩
  rotate_left
  · rintro c ⟨h, -⟩
    cases h
  rintro ⟨-, R3, rc3, cs3, rfl, hE3, hle3, hc3⟩
  have hm03 := hm1.trans hm
  refine Tr.perm (L' := ownS 40 2 R3 (ys ++ (readF TF bd).1).length rc3 cs3 :: box bl 42 [.slice R3 (ys ++ (readF TF bd).1).length rc3] :: box bn 3 [.int .i64 ((readF TF bd).2 : Int)] :: ((dd :: ds).map defR ++ F)) ?_ ?_
  · refine List.Perm.trans ?_ ((List.perm_middle (l₁ := [box bn 3 [.int .i64 ((readF TF bd).2 : Int)], ownS 40 2 R3 (ys ++ (readF TF bd).1).length rc3 cs3, box bl 42 [.slice R3 (ys ++ (readF TF bd).1).length rc3]]) (a := defR dd)))
    exact (List.perm_append_comm (l₁ := [ownS 40 2 R3 (ys ++ (readF TF bd).1).length rc3 cs3, box bl 42 [.slice R3 (ys ++ (readF TF bd).1).length rc3]]) (l₂ := [box bn 3 [.int .i64 ((readF TF bd).2 : Int)]])).append_right _
  have hnx : bd.drop (readF TF bd).2 = bs.drop (e + (readF TF bd).2) := by subst hbd; exact List.drop_drop
  have hn1 : bd.drop 1 = bs.drop (e + 1) := by subst hbd; exact List.drop_drop
  by_cases c0 : (readF TF bd).2 = 0
  · have hne : bd ≠ [] := fun h => by rw [h] at hdl; simp at hdl; omega
    rw [scan_lost hne c0] at i4 i5
    rw [s5 c0, List.append_nil] at hE3
    rw [s5 c0, c0, List.append_nil]
    rw [hn1] at i4 i5
    simp only at i4 i5
    (repeat (first | ((with_reducible refine Tr.step rfl ?_); (first | (refine xmQ (z := ?_)) | (refine xaQ (z := ?_)) | (refine xlQ (z := ?_)) | ((with_reducible refine Knd.binOp ?_); (first | (refine xdQ (z := ?_)) | (refine xiQ (z := ?_)))) | (refine xSQ (z := ?_)))) | (with_reducible first | apply Tr.next | apply Tr.seq | apply Tr.region | apply Tr.nil | apply Tr.in_normal) | (refine Tr.cond_t rfl (by first | (with_reducible assumption) | omega) ?_)))
    refine gvQ (r := box bn 3 _) (k := ?_)
    refine Tr.again (e + 1, lost + 1, ys, R3, rc3, cs3, M', dd :: ds) ⟨by simp only; omega, by simp only; omega, by simp only; omega, hm03, hc3, hE3, i4, by simp only; omega⟩ (by simp only; omega) hsQ
  · rw [scan_found c0] at i4 i5
    rw [hnx] at i4 i5
    simp only at i4 i5
    have hc0 : ¬ ((readF TF bd).2 : Int) = 0 := by omega
    (repeat (first | ((with_reducible refine Tr.step rfl ?_); (first | (refine xmQ (z := ?_)) | (refine xaQ (z := ?_)) | (refine xlQ (z := ?_)) | ((with_reducible refine Knd.binOp ?_); (first | (refine xdQ (z := ?_)) | (refine xiQ (z := ?_)))))) | (with_reducible first | apply Tr.next | apply Tr.seq | apply Tr.region | apply Tr.nil | apply Tr.skip | apply Tr.in_normal) | (refine Tr.cond_f rfl (by (with_reducible assumption)) ?_)))
    refine gvQ (r := box bn 3 _) (k := ?_)
    refine Tr.again (e + (readF TF bd).2, lost, ys ++ (readF TF bd).1, R3, rc3, cs3, M', dd :: ds) ⟨by simp only; omega, by simp only; omega, by simp only [List.length_append]; omega, hm03, hc3, hE3, by rw [List.append_assoc]; exact i4, i5⟩ (by simp only; omega) hsQ
end Go.Proofs.YtghjhdbmkilakaaGreatDoor

/-
  Frames: frames, lists of numbers, relations and messages compared (the reference's).
  Conditions: none.
-/
namespace Go.Proofs.YtghjhdbmkilakaaGreatDoor
open Go Bf
attribute [local irreducible] Tr Exec Stab HasTy Go.Addr.add IntKind.wrap
instance : DecidableEq Frm := fun a b => decidable_of_iff (a.kind = b.kind ∧ a.body = b.body) (by cases a; cases b; simp)
instance : DecidableEq Rel := fun a b => decidable_of_iff (a.out = b.out ∧ a.inn = b.inn) (by cases a; cases b; simp)
theorem take_step {α : Type} {a b : List α} {i : Nat} {x y : α} (hx : a[i]? = some x) (hy : b[i]? = some y) (h : a.take i = b.take i) (e : x = y) : a.take (i + 1) = b.take (i + 1) := by
  rw [List.take_add_one, List.take_add_one, hx, hy, h, e]
theorem ne_at {α : Type} {a b : List α} {i : Nat} {x y : α} (hx : a[i]? = some x) (hy : b[i]? = some y) (e : ¬ x = y) : ¬ a = b := fun h => e (by rw [h, hy] at hx; exact (Option.some.inj hx).symm)
theorem eq_all {α : Type} {a b : List α} {i : Nat} (hi : i = a.length) (hl : a.length = b.length) (h : a.take i = b.take i) : a = b := by
  subst hi
  rwa [List.take_length, hl, List.take_length] at h
/-- the cells of a relation -/
def RRel (M : Mem) (cs : List Value) (r : Rel) : Prop := ∃ A c B d, cs = [.slice A r.out.length c, .slice B r.inn.length d] ∧ Ints M (.slice A r.out.length c) r.out ∧ SlOf 1 RRowI M (.slice B r.inn.length d) r.inn
theorem RRel.mono (M M' : Mem) (cs : List Value) (r : Rel) (hm : Mem.le M M') (h : RRel M cs r) : RRel M' cs r := let ⟨A, c, B, d, h1, h2, h3⟩ := h; ⟨A, c, B, d, h1, h2.mono RI.mono hm, h3.mono RRowI.mono hm⟩
abbrev RRels (M : Mem) (v : Value) (l : List Rel) : Prop := SlOf 2 RRel M v l
set_option maxHeartbeats 2000000 in
theorem rsameInts_fn (M : Mem) (p q : List Int) (A B : Option Addr) (c k : Nat) (hp : Ints M (.slice A p.length c) p) (hq : Ints M (.slice B q.length k) q) : Fn0 Tryz.prog 29 [.slice A p.length c, .slice B q.length k] M (fun r M' => r = .bool (decide (p = q)) ∧ M = M') := by
  have l1 := hp.len_le
  have l2 := hq.len_le
  refine Fn.intro Tryz.func29 rfl rfl Tryz.ntmps29 rfl fun E F => ?_
  by_cases hl : p.length = q.length
  rotate_left
  · rw [decide_eq_false (fun h => hl (congrArg _ h))]
    (repeat (first | ((with_reducible refine Tr.step rfl ?_); (first | (refine xmQ (z := ?_)) | (refine xaQ (z := ?_)) | (refine xnQ (z := ?_)) | (refine xiQ (z := ?_)))) | (with_reducible first | apply Tr.next | apply Tr.seq | apply Tr.region | apply Tr.nil | apply Tr.ret | apply Tr.then_ret) | (refine Tr.cond_t rfl (by first | (with_reducible assumption) | omega) ?_)))
    (refine dnQ (hL := by exact ⟨[], rfl⟩) (k := ⟨rfl, ?_⟩))
    exact ⟨rfl, rfl⟩
  (repeat (first | ((with_reducible refine Tr.step rfl ?_); (first | (refine xmQ (z := ?_)) | (refine xaQ (z := ?_)) | (refine xnQ (z := ?_)) | (refine xiQ (z := ?_)))) | (with_reducible first | apply Tr.next | apply Tr.seq | apply Tr.region | apply Tr.nil | apply Tr.skip | apply Tr.block) | (refine Tr.cond_f rfl (by omega) ?_)))
  refine Tr.loop (α := Nat) (fun i => ⟨26, [(5, .int .i64 (i : Int)), (4, .bool false), (0, .slice A p.length c), (1, .slice B q.length k)], [], M, [] ++ F⟩) (fun i => i ≤ p.length ∧ p.take i = q.take i) (fun i => p.length - i) 0 ⟨by simp, by simp⟩ hsQ (fun i hi => ?_)
  obtain ⟨hi, heq⟩ := hi
  by_cases hlt : i < p.length
  · obtain ⟨x, hx⟩ := get_of_lt hlt
    obtain ⟨y, hy⟩ := get_of_lt (xs := q) (i := i) (by omega)
    obtain ⟨hA, hat⟩ := hp.at hx
    obtain ⟨hB, hbt⟩ := hq.at hy
    (repeat (first | ((with_reducible refine Tr.step rfl ?_); (first | (refine xmQ (z := ?_)) | (refine xnQ (z := ?_)) | (refine xiQ (z := ?_)))) | (with_reducible first | apply Tr.next | apply Tr.seq | apply Tr.region | apply Tr.nil | apply Tr.skip | apply Tr.block) | (refine Tr.cond_t rfl (by first | (with_reducible assumption) | omega) ?_)))
    (((apply Tr.draw); (kernel_rfl)); (refine tkQ 0 (hB := by exact fun _ h => h) (s := by exact Stab.move rfl) (h := ?_)); (refine tkQ 1 (s := by exact Stab.move rfl) (h := ?_)); (refine tkQ 4 (s := by exact Stab.move rfl) (h := ?_)); (refine tkQ 5 (s := by exact Stab.move rfl) (h := ?_)); (refine tkQ 2 (s := by exact sxQ) (h := ?_)); (refine tkQ 6 (s := by exact sxQ) (h := ?_)); (refine tkQ 3 (s := by exact sMQ) (h := ?_)); (refine tkQ 7 (s := by exact sMQ) (h := ?_)); (refine tkQ 8 (s := by exact siQ) (h := ?_)); (refine TrA.done (by kernel_rfl) ?_))
    by_cases hxy : x = y
    · have hn : ¬ ¬ x = y := fun h => h hxy
      (repeat (first | ((with_reducible refine Tr.step rfl ?_); (first | (refine xmQ (z := ?_)) | (refine xaQ (z := ?_)) | (refine xdQ (z := ?_)))) | (with_reducible first | apply Tr.next | apply Tr.region | apply Tr.nil | apply Tr.skip | apply Tr.in_normal) | (refine Tr.cond_f rfl (by (with_reducible assumption)) ?_)))
      refine Tr.again (i + 1) ⟨by omega, take_step hx hy heq hxy⟩ (by omega) hsQ
    · rw [decide_eq_false (ne_at hx hy hxy)]
      (repeat (first | ((with_reducible refine Tr.step rfl ?_); (with_reducible refine Knd.assign ?_); (refine xaQ (z := ?_))) | (with_reducible first | apply Tr.next | apply Tr.seq | apply Tr.region | apply Tr.nil | apply Tr.ret | apply Tr.then_ret | apply Tr.in_ret) | (refine Tr.cond_t rfl (by (with_reducible assumption)) ?_)))
      (refine dnQ (hL := by exact ⟨[], rfl⟩) (k := ⟨rfl, ?_⟩))
      exact ⟨rfl, rfl⟩
  · rw [decide_eq_true (eq_all (by omega) hl heq)]
    (repeat (first | ((with_reducible refine Tr.step rfl ?_); (first | (refine xmQ (z := ?_)) | (refine xaQ (z := ?_)) | (refine xnQ (z := ?_)) | (refine xiQ (z := ?_)))) | (with_reducible first | apply Tr.next | apply Tr.seq | apply Tr.region | apply Tr.nil | apply Tr.exit | apply Tr.ret | apply Tr.then_exit) | ((with_reducible refine Tr.in_exit ?_ ?_); (exact rfl)) | (refine Tr.cond_f rfl (by first | (with_reducible assumption) | omega) ?_)))
    (refine dnQ (hL := by exact ⟨[], rfl⟩) (k := ⟨rfl, ?_⟩))
    exact ⟨rfl, rfl⟩
set_option maxHeartbeats 2000000 in
theorem rsameRel_fn (M : Mem) (p q : Rel) (u v : List Value) (hp : RRel M u p) (hq : RRel M v q) : Fn0 Tryz.prog 67 [.agg u.toArray, .agg v.toArray] M (fun r M' => r = .bool (decide (p = q)) ∧ M = M') := by
  obtain ⟨A, c, B, d, rfl, hp1, hp2⟩ := hp
  obtain ⟨A', c', B', d', rfl, hq1, hq2⟩ := hq
  have l1 := hp2.len_le
  have l2 := hq2.len_le
  refine Fn.intro Tryz.func67 rfl rfl Tryz.ntmps67 rfl fun E F => ?_
  (repeat (first | ((with_reducible refine Tr.step rfl ?_); (first | (refine xaQ (z := ?_)) | (refine xlQ (z := ?_)) | (refine xfQ (z := ?_)) | ((with_reducible refine Knd.box ?_); (refine Exec.box rfl rfl (fun b => ?_))))) | (with_reducible first | apply Tr.next | apply Tr.seq | apply Tr.region | apply Tr.nil)))
  ((refine Tr.step rfl ?_)); refine Exec.call0 rfl (rsameInts_fn M p.out q.out _ _ _ _ hp1 hq1) rfl ?_
  rintro _ _ _ ⟨rfl, rfl⟩
  by_cases ho : p.out = q.out
  rotate_left
  · rw [decide_eq_false (fun h : p = q => ho (congrArg Rel.out h))]
    rw [decide_eq_false ho]
    (repeat (first | ((with_reducible refine Tr.step rfl ?_); (first | (refine xmQ (z := ?_)) | (refine xaQ (z := ?_)) | ((with_reducible refine Knd.pick ?_); (refine Exec.stab rfl (Stab.pick_t rfl (by (with_reducible exact Bool.not_false)) rfl) rfl ?_)) | ((with_reducible refine Knd.unOp ?_); (refine Exec.stab rfl (Stab.not rfl) rfl ?_)))) | (with_reducible first | apply Tr.next | apply Tr.seq | apply Tr.region | apply Tr.nil) | (refine Tr.guard_s0 rfl rfl rfl (by first | (with_reducible rfl) | (with_reducible exact Bool.not_false)) rfl rfl ?_) | (with_reducible first | apply Tr.ret | apply Tr.then_ret) | (refine Tr.cond_bt rfl (by (with_reducible rfl)) ?_)))
    (refine dnQ (hL := by exact ⟨[_, _], rfl⟩) (k := ⟨rfl, ?_⟩))
    exact ⟨rfl, rfl⟩
  rw [decide_eq_true ho]
  by_cases hl : p.inn.length = q.inn.length
  rotate_left
  · rw [decide_eq_false (fun h : p = q => hl (congrArg (fun r => r.inn.length) h))]
    (repeat (first | ((with_reducible refine Tr.step rfl ?_); (first | (refine xmQ (z := ?_)) | (refine xaQ (z := ?_)) | ((with_reducible refine Knd.pick ?_); (refine Exec.stab rfl (Stab.pick_f rfl (by (with_reducible exact Bool.not_true)) rfl) rfl ?_)) | ((with_reducible refine Knd.unOp ?_); (refine Exec.stab rfl (Stab.not rfl) rfl ?_)))) | (with_reducible first | apply Tr.next | apply Tr.seq | apply Tr.region | apply Tr.nil) | ((refine Tr.guard_l rfl rfl rfl (by first | (with_reducible rfl) | (with_reducible exact Bool.not_true)) ?_); (first | (refine xlQ (z := ?_)) | (refine xfQ (z := ?_)) | (refine xnQ (z := ?_)) | (refine xiQ (z := ?_)))) | (with_reducible first | apply Tr.ret | apply Tr.then_ret) | (refine Tr.cond_t rfl (by first | (with_reducible assumption) | omega) ?_)))
    (refine dnQ (hL := by exact ⟨[_, _], rfl⟩) (k := ⟨rfl, ?_⟩))
    exact ⟨rfl, rfl⟩
  (repeat (first | ((with_reducible refine Tr.step rfl ?_); (first | (refine xmQ (z := ?_)) | (refine xaQ (z := ?_)) | ((with_reducible refine Knd.pick ?_); (refine Exec.stab rfl (Stab.pick_f rfl (by (with_reducible exact Bool.not_true)) rfl) rfl ?_)) | ((with_reducible refine Knd.unOp ?_); (refine Exec.stab rfl (Stab.not rfl) rfl ?_)))) | (with_reducible first | apply Tr.next | apply Tr.seq | apply Tr.region | apply Tr.nil) | ((refine Tr.guard_l rfl rfl rfl (by first | (with_reducible rfl) | (with_reducible exact Bool.not_true)) ?_); (first | (refine xlQ (z := ?_)) | (refine xfQ (z := ?_)) | (refine xnQ (z := ?_)) | (refine xiQ (z := ?_)))) | (with_reducible first | apply Tr.skip | apply Tr.block) | (refine Tr.cond_f rfl (by omega) ?_)))
  generalize b = b3
  rename_i b2 _
  refine Tr.loop (α := Nat) (fun i => ⟨40, [(5, .int .i64 (i : Int)), (4, .bool false), (3, .pointer (some ⟨b3, 0, none⟩)), (2, .pointer (some ⟨b2, 0, none⟩))], [], M, box b3 49 [.slice A' q.out.length c', .slice B' q.inn.length d'] :: box b2 49 [.slice A p.out.length c, .slice B p.inn.length d] :: ([] ++ F)⟩) (fun i => i ≤ p.inn.length ∧ p.inn.take i = q.inn.take i) (fun i => p.inn.length - i) 0 ⟨by simp, by simp⟩ hsQ (fun i hi => ?_)
  obtain ⟨hi, heq⟩ := hi
  by_cases hlt : i < p.inn.length
  · obtain ⟨x, hx⟩ := get_of_lt hlt
    obtain ⟨y, hy⟩ := get_of_lt (xs := q.inn) (i := i) (by omega)
    obtain ⟨hA, ch, hat, A1, k1, rfl, hi1⟩ := hp2.elem hx
    obtain ⟨hB, ch2, hbt, A2, k2, rfl, hi2⟩ := hq2.elem hy
    (repeat (first | ((with_reducible refine Tr.step rfl ?_); (first | (refine xmQ (z := ?_)) | (refine xlQ (z := ?_)) | (refine xfQ (z := ?_)) | (refine xnQ (z := ?_)) | (refine xiQ (z := ?_)))) | (with_reducible first | apply Tr.next | apply Tr.seq | apply Tr.region | apply Tr.nil | apply Tr.skip | apply Tr.block) | (refine Tr.cond_t rfl (by first | (with_reducible assumption) | omega) ?_)))
    (((apply Tr.draw); (kernel_rfl)); (refine tkQ 0 (hB := by exact fun _ h => h) (s := by exact sfQ) (h := ?_)); (refine tkQ 2 (s := by exact Stab.move rfl) (h := ?_)); (refine tkQ 5 (s := by exact sfQ) (h := ?_)); (refine tkQ 7 (s := by exact Stab.move rfl) (h := ?_)); (refine tkQ 1 (s := by exact slQ) (h := ?_)); (refine tkQ 6 (s := by exact slQ) (h := ?_)); (refine tkQ 3 (s := by exact sxQ) (h := ?_)); (refine tkQ 8 (s := by exact sxQ) (h := ?_)); (refine tkQ 4 (s := by exact sMQ) (h := ?_)); (refine tkQ 9 (s := by exact sMQ) (h := ?_)); (refine TrA.eff 10 rfl (by kernel_rfl) (by exact .inl rfl) ?_))
    refine Exec.call0 rfl (rsameInts_fn M x y _ _ _ _ hi1 hi2) rfl ?_
    rintro _ _ _ ⟨rfl, rfl⟩
    refine ⟨Mem.le.refl _, (by exact fun _ h => h), ?_⟩
    ((refine tkQ 11 (s := by exact Stab.notd rfl) (h := ?_)); (refine TrA.done (by kernel_rfl) ?_))
    by_cases hxy : x = y
    · have hn : ¬ ¬ x = y := fun h => h hxy
      (repeat (first | ((with_reducible refine Tr.step rfl ?_); (first | (refine xmQ (z := ?_)) | (refine xaQ (z := ?_)) | (refine xdQ (z := ?_)))) | (with_reducible first | apply Tr.next | apply Tr.region | apply Tr.nil | apply Tr.skip | apply Tr.in_normal) | (refine Tr.cond_f rfl (by (with_reducible assumption)) ?_)))
      refine Tr.again (i + 1) ⟨by omega, take_step hx hy heq hxy⟩ (by omega) hsQ
    · rw [decide_eq_false (fun h : p = q => ne_at hx hy hxy (congrArg Rel.inn h))]
      (repeat (first | ((with_reducible refine Tr.step rfl ?_); (with_reducible refine Knd.assign ?_); (refine xaQ (z := ?_))) | (with_reducible first | apply Tr.next | apply Tr.seq | apply Tr.region | apply Tr.nil | apply Tr.ret | apply Tr.then_ret | apply Tr.in_ret) | (refine Tr.cond_t rfl (by (with_reducible assumption)) ?_)))
      (refine dnQ (hL := by exact ⟨[_, _], rfl⟩) (k := ⟨rfl, ?_⟩))
      exact ⟨rfl, rfl⟩
  · have e : p = q := by
      have := eq_all (by omega) hl heq
      cases p; cases q; simp_all
    rw [decide_eq_true e]
    (repeat (first | ((with_reducible refine Tr.step rfl ?_); (first | (refine xmQ (z := ?_)) | (refine xaQ (z := ?_)) | (refine xlQ (z := ?_)) | (refine xfQ (z := ?_)) | (refine xnQ (z := ?_)) | (refine xiQ (z := ?_)))) | (with_reducible first | apply Tr.next | apply Tr.seq | apply Tr.region | apply Tr.nil | apply Tr.exit | apply Tr.ret | apply Tr.then_exit) | ((with_reducible refine Tr.in_exit ?_ ?_); (exact rfl)) | (refine Tr.cond_f rfl (by first | (with_reducible assumption) | omega) ?_)))
    (refine dnQ (hL := by exact ⟨[_, _], rfl⟩) (k := ⟨rfl, ?_⟩))
    exact ⟨rfl, rfl⟩
set_option maxHeartbeats 2000000 in
theorem rsameRels_fn (M : Mem) (p q : List Rel) (A B : Option Addr) (c k : Nat) (hp : RRels M (.slice A p.length c) p) (hq : RRels M (.slice B q.length k) q) : Fn0 Tryz.prog 30 [.slice A p.length c, .slice B q.length k] M (fun r M' => r = .bool (decide (p = q)) ∧ M = M') := by
  have l1 := hp.len_le
  have l2 := hq.len_le
  refine Fn.intro Tryz.func30 rfl rfl Tryz.ntmps30 rfl fun E F => ?_
  by_cases hl : p.length = q.length
  rotate_left
  · rw [decide_eq_false (fun h => hl (congrArg _ h))]
    (repeat (first | ((with_reducible refine Tr.step rfl ?_); (first | (refine xmQ (z := ?_)) | (refine xaQ (z := ?_)) | (refine xnQ (z := ?_)) | (refine xiQ (z := ?_)))) | (with_reducible first | apply Tr.next | apply Tr.seq | apply Tr.region | apply Tr.nil | apply Tr.ret | apply Tr.then_ret) | (refine Tr.cond_t rfl (by first | (with_reducible assumption) | omega) ?_)))
    (refine dnQ (hL := by exact ⟨[], rfl⟩) (k := ⟨rfl, ?_⟩))
    exact ⟨rfl, rfl⟩
  (repeat (first | ((with_reducible refine Tr.step rfl ?_); (first | (refine xmQ (z := ?_)) | (refine xaQ (z := ?_)) | (refine xnQ (z := ?_)) | (refine xiQ (z := ?_)))) | (with_reducible first | apply Tr.next | apply Tr.seq | apply Tr.region | apply Tr.nil | apply Tr.skip | apply Tr.block) | (refine Tr.cond_f rfl (by omega) ?_)))
  refine Tr.loop (α := Nat) (fun i => ⟨27, [(5, .int .i64 (i : Int)), (4, .bool false), (0, .slice A p.length c), (1, .slice B q.length k)], [], M, [] ++ F⟩) (fun i => i ≤ p.length ∧ p.take i = q.take i) (fun i => p.length - i) 0 ⟨by simp, by simp⟩ hsQ (fun i hi => ?_)
  obtain ⟨hi, heq⟩ := hi
  by_cases hlt : i < p.length
  · obtain ⟨x, hx⟩ := get_of_lt hlt
    obtain ⟨y, hy⟩ := get_of_lt (xs := q) (i := i) (by omega)
    obtain ⟨hA, ch, hat, hr1⟩ := hp.elem hx
    obtain ⟨hB, ch2, hbt, hr2⟩ := hq.elem hy
    have hc1 : ch.length = 2 := by obtain ⟨_, _, _, _, rfl, _⟩ := hr1; rfl
    have hc2 : ch2.length = 2 := by obtain ⟨_, _, _, _, rfl, _⟩ := hr2; rfl
    (repeat (first | ((with_reducible refine Tr.step rfl ?_); (first | (refine xmQ (z := ?_)) | (refine xnQ (z := ?_)) | (refine xiQ (z := ?_)))) | (with_reducible first | apply Tr.next | apply Tr.seq | apply Tr.region | apply Tr.nil | apply Tr.skip | apply Tr.block) | (refine Tr.cond_t rfl (by first | (with_reducible assumption) | omega) ?_)))
    (((apply Tr.draw); (kernel_rfl)); (refine tkQ 0 (hB := by exact fun _ h => h) (s := by exact Stab.move rfl) (h := ?_)); (refine tkQ 1 (s := by exact Stab.move rfl) (h := ?_)); (refine tkQ 4 (s := by exact Stab.move rfl) (h := ?_)); (refine tkQ 5 (s := by exact Stab.move rfl) (h := ?_)); (refine tkQ 2 (s := by exact sxQ) (h := ?_)); (refine tkQ 6 (s := by exact sxQ) (h := ?_)); (refine tkQ 3 (s := by exact Stab.loadMA rfl (tysOk.get rfl) rfl (by assumption) (by first | rfl | assumption)) (h := ?_)); (refine tkQ 7 (s := by exact Stab.loadMA rfl (tysOk.get rfl) rfl (by assumption) (by first | rfl | assumption)) (h := ?_)); (refine TrA.eff 8 rfl (by kernel_rfl) (by exact .inl rfl) ?_))
    refine Exec.call0 rfl (rsameRel_fn M x y ch ch2 hr1 hr2) rfl ?_
    rintro _ _ _ ⟨rfl, rfl⟩
    refine ⟨Mem.le.refl _, (by exact fun _ h => h), ?_⟩
    ((refine tkQ 9 (s := by exact Stab.notd rfl) (h := ?_)); (refine TrA.done (by kernel_rfl) ?_))
    by_cases hxy : x = y
    · have hn : ¬ ¬ x = y := fun h => h hxy
      (repeat (first | ((with_reducible refine Tr.step rfl ?_); (first | (refine xmQ (z := ?_)) | (refine xaQ (z := ?_)) | (refine xdQ (z := ?_)))) | (with_reducible first | apply Tr.next | apply Tr.region | apply Tr.nil | apply Tr.skip | apply Tr.in_normal) | (refine Tr.cond_f rfl (by (with_reducible assumption)) ?_)))
      refine Tr.again (i + 1) ⟨by omega, take_step hx hy heq hxy⟩ (by omega) hsQ
    · rw [decide_eq_false (ne_at hx hy hxy)]
      (repeat (first | ((with_reducible refine Tr.step rfl ?_); (with_reducible refine Knd.assign ?_); (refine xaQ (z := ?_))) | (with_reducible first | apply Tr.next | apply Tr.seq | apply Tr.region | apply Tr.nil | apply Tr.ret | apply Tr.then_ret | apply Tr.in_ret) | (refine Tr.cond_t rfl (by (with_reducible assumption)) ?_)))
      (refine dnQ (hL := by exact ⟨[], rfl⟩) (k := ⟨rfl, ?_⟩))
      exact ⟨rfl, rfl⟩
  · rw [decide_eq_true (eq_all (by omega) hl heq)]
    (repeat (first | ((with_reducible refine Tr.step rfl ?_); (first | (refine xmQ (z := ?_)) | (refine xaQ (z := ?_)) | (refine xnQ (z := ?_)) | (refine xiQ (z := ?_)))) | (with_reducible first | apply Tr.next | apply Tr.seq | apply Tr.region | apply Tr.nil | apply Tr.exit | apply Tr.ret | apply Tr.then_exit) | ((with_reducible refine Tr.in_exit ?_ ?_); (exact rfl)) | (refine Tr.cond_f rfl (by first | (with_reducible assumption) | omega) ?_)))
    (refine dnQ (hL := by exact ⟨[], rfl⟩) (k := ⟨rfl, ?_⟩))
    exact ⟨rfl, rfl⟩
end Go.Proofs.YtghjhdbmkilakaaGreatDoor

/-
  Frames: how messages lie in memory; messages compared by the reference; FewFrames and Few.
  Conditions: none.
-/
namespace Go.Proofs.YtghjhdbmkilakaaGreatDoor
open Go Bf
attribute [local irreducible] Tr Exec Stab HasTy Go.Addr.add IntKind.wrap
instance : DecidableEq Msg := fun a b => decidable_of_iff (a.kind = b.kind ∧ a.head = b.head ∧ a.labels = b.labels ∧ a.verdicts = b.verdicts ∧ a.rels = b.rels ∧ a.sl = b.sl) (by cases a; cases b; simp)
/-- the cells of a message -/
structure RMsg (M : Mem) (cs : List Value) (m : Msg) : Prop where
  ex : ∃ h0 h1 h2 h3 h4 h5 h6 A c B d C e, m.head = [h0, h1, h2, h3, h4, h5, h6] ∧
    cs = .int .i64 m.kind :: .int .i64 h0 :: .int .i64 h1 :: .int .i64 h2 :: .int .i64 h3 :: .int .i64 h4 :: .int .i64 h5 :: .int .i64 h6 :: .slice A m.labels.length c :: .slice B m.verdicts.length d :: .slice C m.rels.length e :: byteV m.sl ∧
    Ints M (.slice A m.labels.length c) m.labels ∧ Ints M (.slice B m.verdicts.length d) m.verdicts ∧ RRels M (.slice C m.rels.length e) m.rels
  w : MsgW m
  k : -9223372036854775808 ≤ m.kind ∧ m.kind ≤ 9223372036854775807
theorem RMsg.mono {M M' : Mem} {cs : List Value} {m : Msg} (h : RMsg M cs m) (hm : Mem.le M M') : RMsg M' cs m := by
  obtain ⟨⟨h0, h1, h2, h3, h4, h5, h6, A, c, B, d, C, e, x1, x2, x3, x4, x5⟩, w, k⟩ := h
  exact ⟨⟨h0, h1, h2, h3, h4, h5, h6, A, c, B, d, C, e, x1, x2, x3.mono RI.mono hm, x4.mono RI.mono hm, x5.mono RRel.mono hm⟩, w, k⟩
set_option maxHeartbeats 8000000 in
theorem rsame_fn (M : Mem) (p q : Msg) (u v : List Value) (hp : RMsg M u p) (hq : RMsg M v q) : Fn0 Tryz.prog 10 [.agg u.toArray, .agg v.toArray] M (fun r M' => r = .bool (decide (p = q)) ∧ M = M') := by
  obtain ⟨⟨a0, a1, a2, a3, a4, a5, a6, A, c, B, d, C, e, pe, rfl, p1, p2, p3⟩, pw, -⟩ := hp
  obtain ⟨⟨b0, b1, b2, b3, b4, b5, b6, A', c', B', d', C', e', qe, rfl, q1, q2, q3⟩, qw, -⟩ := hq
  have psl := pw.1
  have qsl := qw.1
  have psl2 : (byteV p.sl).length = 32 := by simpa using psl
  have qsl2 : (byteV q.sl).length = 32 := by simpa using qsl
  refine Fn.intro Tryz.func10 rfl rfl Tryz.ntmps10 rfl fun E F => ?_
  by_cases k0 : p.kind ≠ q.kind
  · rw [decide_eq_false (fun h : p = q => k0 (congrArg Msg.kind h))]
    (repeat (first | ((with_reducible refine Tr.step rfl ?_); (first | (refine xmQ (z := ?_)) | (refine xaQ (z := ?_)) | (refine xlQ (z := ?_)) | (refine xfQ (z := ?_)) | (refine xiQ (z := ?_)) | ((with_reducible refine Knd.pick ?_); (first | (refine Exec.stab rfl (Stab.pick_t rfl (by (with_reducible rfl)) rfl) rfl ?_) | (refine Exec.stab rfl (Stab.pick_td rfl (by (with_reducible assumption)) rfl) rfl ?_))) | ((with_reducible refine Knd.box ?_); (refine Exec.box rfl rfl (fun b => ?_))))) | (with_reducible first | apply Tr.next | apply Tr.seq | apply Tr.region | apply Tr.nil) | (refine Tr.guard_s0 rfl rfl rfl (by (with_reducible rfl)) rfl rfl ?_) | (refine Tr.guard_n' rfl rfl rfl (by (with_reducible assumption)) rfl rfl ?_) | (with_reducible first | apply Tr.ret | apply Tr.then_ret) | (refine Tr.cond_bt rfl (by (with_reducible rfl)) ?_)))
    (refine dnQ (hL := by exact ⟨[_, _], rfl⟩) (k := ⟨rfl, ?_⟩))
    exact ⟨rfl, rfl⟩
  by_cases k1 : a0 ≠ b0
  · rw [decide_eq_false (fun h : p = q => k1 (by have := congrArg Msg.head h; rw [pe, qe] at this; simp at this; simp [this]))]
    (repeat (first | ((with_reducible refine Tr.step rfl ?_); (first | (refine xmQ (z := ?_)) | (refine xaQ (z := ?_)) | (refine xlQ (z := ?_)) | (refine xfQ (z := ?_)) | (refine xiQ (z := ?_)) | ((with_reducible refine Knd.pick ?_); (first | (refine Exec.stab rfl (Stab.pick_t rfl (by (with_reducible rfl)) rfl) rfl ?_) | (refine Exec.stab rfl (Stab.pick_td rfl (by (with_reducible assumption)) rfl) rfl ?_) | (refine Exec.stab rfl (Stab.pick_fd rfl (by (with_reducible assumption)) rfl) rfl ?_))) | ((with_reducible refine Knd.box ?_); (refine Exec.box rfl rfl (fun b => ?_))))) | (with_reducible first | apply Tr.next | apply Tr.seq | apply Tr.region | apply Tr.nil) | (refine Tr.guard_s0 rfl rfl rfl (by (with_reducible rfl)) rfl rfl ?_) | ((refine Tr.guard_y' rfl rfl rfl (by (with_reducible assumption)) ?_); (first | (refine xlQ (z := ?_)) | (refine xfQ (z := ?_)) | (refine xiQ (z := ?_)))) | (refine Tr.guard_n' rfl rfl rfl (by (with_reducible assumption)) rfl rfl ?_) | (with_reducible first | apply Tr.ret | apply Tr.then_ret) | (refine Tr.cond_bt rfl (by (with_reducible rfl)) ?_)))
    (refine dnQ (hL := by exact ⟨[_, _], rfl⟩) (k := ⟨rfl, ?_⟩))
    exact ⟨rfl, rfl⟩
  by_cases k2 : a1 ≠ b1
  · rw [decide_eq_false (fun h : p = q => k2 (by have := congrArg Msg.head h; rw [pe, qe] at this; simp at this; simp [this]))]
    (repeat (first | ((with_reducible refine Tr.step rfl ?_); (first | (refine xmQ (z := ?_)) | (refine xaQ (z := ?_)) | (refine xlQ (z := ?_)) | (refine xfQ (z := ?_)) | (refine xiQ (z := ?_)) | ((with_reducible refine Knd.pick ?_); (first | (refine Exec.stab rfl (Stab.pick_t rfl (by (with_reducible rfl)) rfl) rfl ?_) | (refine Exec.stab rfl (Stab.pick_td rfl (by (with_reducible assumption)) rfl) rfl ?_) | (refine Exec.stab rfl (Stab.pick_fd rfl (by (with_reducible assumption)) rfl) rfl ?_))) | ((with_reducible refine Knd.box ?_); (refine Exec.box rfl rfl (fun b => ?_))))) | (with_reducible first | apply Tr.next | apply Tr.seq | apply Tr.region | apply Tr.nil) | (refine Tr.guard_s0 rfl rfl rfl (by (with_reducible rfl)) rfl rfl ?_) | ((refine Tr.guard_y' rfl rfl rfl (by (with_reducible assumption)) ?_); (first | (refine xlQ (z := ?_)) | (refine xfQ (z := ?_)) | (refine xiQ (z := ?_)))) | (refine Tr.guard_n' rfl rfl rfl (by (with_reducible assumption)) rfl rfl ?_) | (with_reducible first | apply Tr.ret | apply Tr.then_ret) | (refine Tr.cond_bt rfl (by (with_reducible rfl)) ?_)))
    (refine dnQ (hL := by exact ⟨[_, _], rfl⟩) (k := ⟨rfl, ?_⟩))
    exact ⟨rfl, rfl⟩
  by_cases k3 : a2 ≠ b2
  · rw [decide_eq_false (fun h : p = q => k3 (by have := congrArg Msg.head h; rw [pe, qe] at this; simp at this; simp [this]))]
    (repeat (first | ((with_reducible refine Tr.step rfl ?_); (first | (refine xmQ (z := ?_)) | (refine xaQ (z := ?_)) | (refine xlQ (z := ?_)) | (refine xfQ (z := ?_)) | (refine xiQ (z := ?_)) | ((with_reducible refine Knd.pick ?_); (first | (refine Exec.stab rfl (Stab.pick_t rfl (by (with_reducible rfl)) rfl) rfl ?_) | (refine Exec.stab rfl (Stab.pick_td rfl (by (with_reducible assumption)) rfl) rfl ?_) | (refine Exec.stab rfl (Stab.pick_fd rfl (by (with_reducible assumption)) rfl) rfl ?_))) | ((with_reducible refine Knd.box ?_); (refine Exec.box rfl rfl (fun b => ?_))))) | (with_reducible first | apply Tr.next | apply Tr.seq | apply Tr.region | apply Tr.nil) | (refine Tr.guard_s0 rfl rfl rfl (by (with_reducible rfl)) rfl rfl ?_) | ((refine Tr.guard_y' rfl rfl rfl (by (with_reducible assumption)) ?_); (first | (refine xlQ (z := ?_)) | (refine xfQ (z := ?_)) | (refine xiQ (z := ?_)))) | (refine Tr.guard_n' rfl rfl rfl (by (with_reducible assumption)) rfl rfl ?_) | (with_reducible first | apply Tr.ret | apply Tr.then_ret) | (refine Tr.cond_bt rfl (by (with_reducible rfl)) ?_)))
    (refine dnQ (hL := by exact ⟨[_, _], rfl⟩) (k := ⟨rfl, ?_⟩))
    exact ⟨rfl, rfl⟩
  by_cases k4 : a3 ≠ b3
  · rw [decide_eq_false (fun h : p = q => k4 (by have := congrArg Msg.head h; rw [pe, qe] at this; simp at this; simp [this]))]
    (repeat (first | ((with_reducible refine Tr.step rfl ?_); (first | (refine xmQ (z := ?_)) | (refine xaQ (z := ?_)) | (refine xlQ (z := ?_)) | (refine xfQ (z := ?_)) | (refine xiQ (z := ?_)) | ((with_reducible refine Knd.pick ?_); (first | (refine Exec.stab rfl (Stab.pick_t rfl (by (with_reducible rfl)) rfl) rfl ?_) | (refine Exec.stab rfl (Stab.pick_td rfl (by (with_reducible assumption)) rfl) rfl ?_) | (refine Exec.stab rfl (Stab.pick_fd rfl (by (with_reducible assumption)) rfl) rfl ?_))) | ((with_reducible refine Knd.box ?_); (refine Exec.box rfl rfl (fun b => ?_))))) | (with_reducible first | apply Tr.next | apply Tr.seq | apply Tr.region | apply Tr.nil) | (refine Tr.guard_s0 rfl rfl rfl (by (with_reducible rfl)) rfl rfl ?_) | ((refine Tr.guard_y' rfl rfl rfl (by (with_reducible assumption)) ?_); (first | (refine xlQ (z := ?_)) | (refine xfQ (z := ?_)) | (refine xiQ (z := ?_)))) | (refine Tr.guard_n' rfl rfl rfl (by (with_reducible assumption)) rfl rfl ?_) | (with_reducible first | apply Tr.ret | apply Tr.then_ret) | (refine Tr.cond_bt rfl (by (with_reducible rfl)) ?_)))
    (refine dnQ (hL := by exact ⟨[_, _], rfl⟩) (k := ⟨rfl, ?_⟩))
    exact ⟨rfl, rfl⟩
  by_cases k5 : a4 ≠ b4
  · rw [decide_eq_false (fun h : p = q => k5 (by have := congrArg Msg.head h; rw [pe, qe] at this; simp at this; simp [this]))]
    (repeat (first | ((with_reducible refine Tr.step rfl ?_); (first | (refine xmQ (z := ?_)) | (refine xaQ (z := ?_)) | (refine xlQ (z := ?_)) | (refine xfQ (z := ?_)) | (refine xiQ (z := ?_)) | ((with_reducible refine Knd.pick ?_); (first | (refine Exec.stab rfl (Stab.pick_t rfl (by (with_reducible rfl)) rfl) rfl ?_) | (refine Exec.stab rfl (Stab.pick_td rfl (by (with_reducible assumption)) rfl) rfl ?_) | (refine Exec.stab rfl (Stab.pick_fd rfl (by (with_reducible assumption)) rfl) rfl ?_))) | ((with_reducible refine Knd.box ?_); (refine Exec.box rfl rfl (fun b => ?_))))) | (with_reducible first | apply Tr.next | apply Tr.seq | apply Tr.region | apply Tr.nil) | (refine Tr.guard_s0 rfl rfl rfl (by (with_reducible rfl)) rfl rfl ?_) | ((refine Tr.guard_y' rfl rfl rfl (by (with_reducible assumption)) ?_); (first | (refine xlQ (z := ?_)) | (refine xfQ (z := ?_)) | (refine xiQ (z := ?_)))) | (refine Tr.guard_n' rfl rfl rfl (by (with_reducible assumption)) rfl rfl ?_) | (with_reducible first | apply Tr.ret | apply Tr.then_ret) | (refine Tr.cond_bt rfl (by (with_reducible rfl)) ?_)))
    (refine dnQ (hL := by exact ⟨[_, _], rfl⟩) (k := ⟨rfl, ?_⟩))
    exact ⟨rfl, rfl⟩
  by_cases k6 : a5 ≠ b5
  · rw [decide_eq_false (fun h : p = q => k6 (by have := congrArg Msg.head h; rw [pe, qe] at this; simp at this; simp [this]))]
    (repeat (first | ((with_reducible refine Tr.step rfl ?_); (first | (refine xmQ (z := ?_)) | (refine xaQ (z := ?_)) | (refine xlQ (z := ?_)) | (refine xfQ (z := ?_)) | (refine xiQ (z := ?_)) | ((with_reducible refine Knd.pick ?_); (first | (refine Exec.stab rfl (Stab.pick_t rfl (by (with_reducible rfl)) rfl) rfl ?_) | (refine Exec.stab rfl (Stab.pick_td rfl (by (with_reducible assumption)) rfl) rfl ?_) | (refine Exec.stab rfl (Stab.pick_fd rfl (by (with_reducible assumption)) rfl) rfl ?_))) | ((with_reducible refine Knd.box ?_); (refine Exec.box rfl rfl (fun b => ?_))))) | (with_reducible first | apply Tr.next | apply Tr.seq | apply Tr.region | apply Tr.nil) | (refine Tr.guard_s0 rfl rfl rfl (by (with_reducible rfl)) rfl rfl ?_) | ((refine Tr.guard_y' rfl rfl rfl (by (with_reducible assumption)) ?_); (first | (refine xlQ (z := ?_)) | (refine xfQ (z := ?_)) | (refine xiQ (z := ?_)))) | (refine Tr.guard_n' rfl rfl rfl (by (with_reducible assumption)) rfl rfl ?_) | (with_reducible first | apply Tr.ret | apply Tr.then_ret) | (refine Tr.cond_bt rfl (by (with_reducible rfl)) ?_)))
    (refine dnQ (hL := by exact ⟨[_, _], rfl⟩) (k := ⟨rfl, ?_⟩))
    exact ⟨rfl, rfl⟩
  by_cases k7 : a6 ≠ b6
  · rw [decide_eq_false (fun h : p = q => k7 (by have := congrArg Msg.head h; rw [pe, qe] at this; simp at this; simp [this]))]
    (repeat (first | ((with_reducible refine Tr.step rfl ?_); (first | (refine xmQ (z := ?_)) | (refine xaQ (z := ?_)) | (refine xlQ (z := ?_)) | (refine xfQ (z := ?_)) | (refine xiQ (z := ?_)) | ((with_reducible refine Knd.pick ?_); (first | (refine Exec.stab rfl (Stab.pick_td rfl (by (with_reducible assumption)) rfl) rfl ?_) | (refine Exec.stab rfl (Stab.pick_fd rfl (by (with_reducible assumption)) rfl) rfl ?_))) | ((with_reducible refine Knd.box ?_); (refine Exec.box rfl rfl (fun b => ?_))))) | (with_reducible first | apply Tr.next | apply Tr.seq | apply Tr.region | apply Tr.nil) | ((refine Tr.guard_y' rfl rfl rfl (by (with_reducible assumption)) ?_); (first | (refine xlQ (z := ?_)) | (refine xfQ (z := ?_)) | (refine xiQ (z := ?_)))) | (refine Tr.guard_n' rfl rfl rfl (by (with_reducible assumption)) rfl rfl ?_) | (with_reducible first | apply Tr.ret | apply Tr.then_ret) | (refine Tr.cond_bt rfl (by (with_reducible rfl)) ?_)))
    (refine dnQ (hL := by exact ⟨[_, _], rfl⟩) (k := ⟨rfl, ?_⟩))
    exact ⟨rfl, rfl⟩
  by_cases k8 : ¬ p.sl = q.sl
  · rw [decide_eq_false (fun h : p = q => k8 (congrArg Msg.sl h))]
    (repeat (first | ((with_reducible refine Tr.step rfl ?_); (first | (refine xmQ (z := ?_)) | (refine xaQ (z := ?_)) | (refine xlQ (z := ?_)) | (refine xfQ (z := ?_)) | (refine xiQ (z := ?_)) | ((with_reducible refine Knd.pick ?_); (refine Exec.stab rfl (Stab.pick_fd rfl (by (with_reducible assumption)) rfl) rfl ?_)) | ((with_reducible refine Knd.box ?_); (refine Exec.box rfl rfl (fun b => ?_))))) | (with_reducible first | apply Tr.next | apply Tr.seq | apply Tr.region | apply Tr.nil) | ((refine Tr.guard_y' rfl rfl rfl (by (with_reducible assumption)) ?_); (first | ((with_reducible refine Knd.load ?_); (first | (refine xlQ (z := ?_)) | (refine Exec.stab rfl (Stab.loadT rfl (tysOk.get rfl) rfl (by repeat (first | exact Has.here | apply Has.there)) rfl (by assumption)) rfl ?_))) | (refine xfQ (z := ?_)) | ((with_reducible refine Knd.binOp ?_); (first | (refine Exec.stab rfl (Stab.arrne rfl rfl (tysOk.get rfl) rfl (tysOk.get rfl) rfl rfl (by kernel_rfl) (by assumption) (by assumption)) rfl ?_) | (refine xiQ (z := ?_)))))) | (with_reducible first | apply Tr.ret | apply Tr.then_ret) | (refine Tr.cond_t rfl (by (with_reducible assumption)) ?_)))
    (refine dnQ (hL := by exact ⟨[_, _], rfl⟩) (k := ⟨rfl, ?_⟩))
    exact ⟨rfl, rfl⟩
  have kk : p = q ↔ p.labels = q.labels ∧ p.verdicts = q.verdicts ∧ p.rels = q.rels := by
    refine ⟨fun h => by rw [h]; exact ⟨rfl, rfl, rfl⟩, fun ⟨h1, h2, h3⟩ => ?_⟩
    cases p; cases q
    simp_all
  (repeat (first | ((with_reducible refine Tr.step rfl ?_); (first | (refine xmQ (z := ?_)) | (refine xaQ (z := ?_)) | (refine xlQ (z := ?_)) | (refine xfQ (z := ?_)) | (refine xiQ (z := ?_)) | ((with_reducible refine Knd.pick ?_); (refine Exec.stab rfl (Stab.pick_fd rfl (by (with_reducible assumption)) rfl) rfl ?_)) | ((with_reducible refine Knd.box ?_); (refine Exec.box rfl rfl (fun b => ?_))))) | (with_reducible first | apply Tr.next | apply Tr.seq | apply Tr.region | apply Tr.nil) | ((refine Tr.guard_y' rfl rfl rfl (by (with_reducible assumption)) ?_); (first | ((with_reducible refine Knd.load ?_); (first | (refine xlQ (z := ?_)) | (refine Exec.stab rfl (Stab.loadT rfl (tysOk.get rfl) rfl (by repeat (first | exact Has.here | apply Has.there)) rfl (by assumption)) rfl ?_))) | (refine xfQ (z := ?_)) | ((with_reducible refine Knd.binOp ?_); (first | (refine Exec.stab rfl (Stab.arrne rfl rfl (tysOk.get rfl) rfl (tysOk.get rfl) rfl rfl (by kernel_rfl) (by assumption) (by assumption)) rfl ?_) | (refine xiQ (z := ?_)))))) | (with_reducible refine Tr.skip ?_) | (refine Tr.cond_f rfl (by (with_reducible assumption)) ?_)))
  ((refine Tr.step rfl ?_)); refine Exec.call0 rfl (rsameInts_fn M p.labels q.labels _ _ _ _ p1 q1) rfl ?_
  rintro _ _ _ ⟨rfl, rfl⟩
  by_cases hl : p.labels = q.labels
  rotate_left
  · rw [decide_eq_false hl, decide_eq_false (fun h => hl (kk.1 h).1)]
    (repeat (first | ((with_reducible refine Tr.step rfl ?_); (first | (refine xmQ (z := ?_)) | (refine xaQ (z := ?_)) | ((with_reducible refine Knd.pick ?_); (refine Exec.stab rfl (Stab.pick_f rfl (by (with_reducible rfl)) rfl) rfl ?_)))) | (with_reducible first | apply Tr.next | apply Tr.nil) | (refine Tr.guard_s1 rfl rfl rfl (by (with_reducible rfl)) rfl rfl ?_) | (with_reducible refine Tr.ret ?_)))
    (refine dnQ (hL := by exact ⟨[_, _], rfl⟩) (k := ⟨rfl, ?_⟩))
    exact ⟨rfl, rfl⟩
  rw [decide_eq_true hl]
  (repeat (first | ((with_reducible refine Tr.step rfl ?_); (with_reducible refine Knd.move ?_); (refine xmQ (z := ?_))) | ((refine Tr.guard_l rfl rfl rfl (by (with_reducible rfl)) ?_); (first | (refine xlQ (z := ?_)) | (refine xfQ (z := ?_))))))
  ((refine Tr.guard_l rfl rfl rfl (by (with_reducible rfl)) ?_)); refine Exec.call0 rfl (rsameInts_fn M p.verdicts q.verdicts _ _ _ _ p2 q2) rfl ?_
  rintro _ _ _ ⟨rfl, rfl⟩
  by_cases hv : p.verdicts = q.verdicts
  rotate_left
  · rw [decide_eq_false hv, decide_eq_false (fun h => hv (kk.1 h).2.1)]
    (repeat (first | ((with_reducible refine Tr.step rfl ?_); (first | (refine xmQ (z := ?_)) | (refine xaQ (z := ?_)) | ((with_reducible refine Knd.pick ?_); (first | (refine Exec.stab rfl (Stab.pick_t rfl (by (with_reducible rfl)) rfl) rfl ?_) | (refine Exec.stab rfl (Stab.pick_f rfl (by (with_reducible rfl)) rfl) rfl ?_))))) | (with_reducible first | apply Tr.next | apply Tr.nil) | (refine Tr.guard_s1 rfl rfl rfl (by (with_reducible rfl)) rfl rfl ?_) | (with_reducible refine Tr.ret ?_)))
    (refine dnQ (hL := by exact ⟨[_, _], rfl⟩) (k := ⟨rfl, ?_⟩))
    exact ⟨rfl, rfl⟩
  rw [decide_eq_true hv]
  (repeat (first | ((with_reducible refine Tr.step rfl ?_); (first | (refine xmQ (z := ?_)) | ((with_reducible refine Knd.pick ?_); (refine Exec.stab rfl (Stab.pick_t rfl (by (with_reducible rfl)) rfl) rfl ?_)))) | ((refine Tr.guard_l rfl rfl rfl (by (with_reducible rfl)) ?_); (first | (refine xlQ (z := ?_)) | (refine xfQ (z := ?_))))))
  ((refine Tr.guard_l rfl rfl rfl (by (with_reducible rfl)) ?_)); refine Exec.call0 rfl (rsameRels_fn M p.rels q.rels _ _ _ _ p3 q3) rfl ?_
  rintro _ _ _ ⟨rfl, rfl⟩
  (repeat (first | ((with_reducible refine Tr.step rfl ?_); (first | (refine xaQ (z := ?_)) | ((with_reducible refine Knd.pick ?_); (refine Exec.stab rfl (Stab.pick_t rfl (by (with_reducible rfl)) rfl) rfl ?_)))) | (with_reducible first | apply Tr.next | apply Tr.nil | apply Tr.ret)))
  (refine dnQ (hL := by exact ⟨[_, _], rfl⟩) (k := ⟨rfl, ?_⟩))
  refine ⟨?_, rfl⟩
  exact congrArg Value.bool (decide_eq_decide.2 ⟨fun h => kk.2 ⟨hl, hv, h⟩, fun h => (kk.1 h).2.2⟩)
end Go.Proofs.YtghjhdbmkilakaaGreatDoor

/-
  Frames: FewFrames, Few and joined.
  Conditions: none.
-/
namespace Go.Proofs.YtghjhdbmkilakaaGreatDoor
open Go Bf
attribute [local irreducible] Tr Exec Stab HasTy Go.Addr.add IntKind.wrap
set_option maxHeartbeats 4000000 in
theorem few_fn (M : Mem) (p : Msg) (u : List Value) (hp : RMsg M u p) :
    Fn0 Tryz.prog 5 [.agg u.toArray] M (fun r M' => (∃ b : Bool, r = .bool b) ∧ M = M') := by
  obtain ⟨⟨a0, a1, a2, a3, a4, a5, a6, A, c, B, d, C, e, pe, rfl, p1, p2, p3⟩, pw, -⟩ := hp
  have l3 := p3.len_le
  have psl2 : (byteV p.sl).length = 32 := by simpa using pw.1
  refine Fn.intro Tryz.func5 rfl rfl Tryz.ntmps5 rfl fun E F => ?_
  (repeat (first | ((with_reducible refine Tr.step rfl ?_); (first | (refine xaQ (z := ?_)) | (refine xlQ (z := ?_)) | (refine xfQ (z := ?_)) | (refine xnQ (z := ?_)) | (refine xiQ (z := ?_)) | ((with_reducible refine Knd.box ?_); (refine Exec.box rfl rfl (fun b => ?_))))) | (with_reducible first | apply Tr.next | apply Tr.seq | apply Tr.region | apply Tr.nil | apply Tr.block)))
  refine Tr.loop (α := Nat × Int) (fun y => ⟨66, [(4, .int .i64 (y.1 : Int)), (3, .int .i64 y.2), (2, .bool false), (1, .pointer (some ⟨b, 0, none⟩))], [], M, box b 27 (.int .i64 p.kind :: .int .i64 a0 :: .int .i64 a1 :: .int .i64 a2 :: .int .i64 a3 :: .int .i64 a4 :: .int .i64 a5 :: .int .i64 a6 :: .slice A p.labels.length c :: .slice B p.verdicts.length d :: .slice C p.rels.length e :: byteV p.sl) :: ([] ++ F)⟩) (fun y => y.1 ≤ p.rels.length) (fun y => p.rels.length - y.1) (0, _) (by simp) hsQ (fun y hi => ?_)
  obtain ⟨i, n⟩ := y
  dsimp only at hi ⊢
  by_cases hlt : i < p.rels.length
  rotate_left
  · (repeat (first | ((with_reducible refine Tr.step rfl ?_); (first | (refine xmQ (z := ?_)) | (refine xaQ (z := ?_)) | (refine xlQ (z := ?_)) | (refine xfQ (z := ?_)) | (refine xnQ (z := ?_)) | (refine xiQ (z := ?_)))) | (with_reducible first | apply Tr.next | apply Tr.seq | apply Tr.region | apply Tr.nil | apply Tr.exit | apply Tr.ret | apply Tr.then_exit) | ((with_reducible refine Tr.in_exit ?_ ?_); (exact rfl)) | (refine Tr.cond_f rfl (by first | (with_reducible assumption) | (with_reducible rfl) | (with_reducible exact (not_not_intro rfl)) | omega) ?_)))
    (refine dnQ (hL := by exact ⟨[_], rfl⟩) (k := ⟨rfl, ?_⟩))
    exact ⟨⟨_, rfl⟩, rfl⟩
  obtain ⟨x, hx⟩ := get_of_lt hlt
  obtain ⟨hA, ch, hat, A1, k1, A2, k2, rfl, hr1, hr2⟩ := p3.elem hx
  have hat0 : At M (((C.getD default).add (i * 2)).add 0) [.slice A1 x.out.length k1, .slice A2 x.inn.length k2] := hat.drop 0
  have hat1 : At M (((C.getD default).add (i * 2)).add 1) [.slice A2 x.inn.length k2] := hat.tail
  have l4 := hr2.len_le
  (repeat (first | ((with_reducible refine Tr.step rfl ?_); (first | (refine xmQ (z := ?_)) | (refine xlQ (z := ?_)) | (refine xfQ (z := ?_)) | (refine xnQ (z := ?_)) | (refine xiQ (z := ?_)))) | (with_reducible first | apply Tr.next | apply Tr.seq | apply Tr.region | apply Tr.nil | apply Tr.skip | apply Tr.block) | (refine Tr.cond_t rfl (by first | (with_reducible assumption) | (with_reducible rfl) | (with_reducible exact (not_not_intro rfl)) | omega) ?_)))
  (((apply Tr.draw); (kernel_rfl)); (refine tkQ 0 (hB := by exact fun _ h => h) (s := by exact Stab.move rfl) (h := ?_)); (refine tkQ 1 (s := by exact sfQ) (h := ?_)); (refine tkQ 3 (s := by exact Stab.move rfl) (h := ?_)); (refine tkQ 9 (s := by exact sfQ) (h := ?_)); (refine tkQ 11 (s := by exact Stab.move rfl) (h := ?_)); (refine tkQ 2 (s := by exact slQ) (h := ?_)); (refine tkQ 10 (s := by exact slQ) (h := ?_)); (refine tkQ 4 (s := by exact sxQ) (h := ?_)); (refine tkQ 12 (s := by exact sxQ) (h := ?_)); (refine tkQ 5 (s := by exact Stab.fieldD rfl (tysOk.get rfl) rfl rfl (tysOk.get rfl) rfl) (h := ?_)); (refine tkQ 13 (s := by exact Stab.fieldD rfl (tysOk.get rfl) rfl rfl (tysOk.get rfl) rfl) (h := ?_)); (refine tkQ 6 (s := by exact sMQ) (h := ?_)); (refine tkQ 14 (s := by exact sMQ) (h := ?_)); (refine tkQ 7 (s := by first | exact snQ | exact Stab.lensL rfl (tysOk.get rfl) rfl | exact Stab.lens rfl (tysOk.get rfl) rfl) (h := ?_)); (refine tkQ 15 (s := by first | exact snQ | exact Stab.lensL rfl (tysOk.get rfl) rfl | exact Stab.lens rfl (tysOk.get rfl) rfl) (h := ?_)); (refine tkQ 8 (s := by exact siQ) (h := ?_)); (refine tkQ 16 (s := by exact siQ) (h := ?_)); (refine tkQ 17 (s := by exact Stab.assign rfl) (h := ?_)); (refine TrA.done (by kernel_rfl) ?_))
  (repeat (first | ((with_reducible refine Tr.step rfl ?_); (with_reducible refine Knd.assign ?_); (refine xaQ (z := ?_))) | (with_reducible first | apply Tr.next | apply Tr.seq | apply Tr.region | apply Tr.nil | apply Tr.block)))
  refine Tr.loop (α := Nat × Int) (fun y => ⟨66, [(5, .int .i64 (y.1 : Int)), (4, .int .i64 (i : Int)), (3, .int .i64 y.2), (2, .bool false), (1, .pointer (some ⟨b, 0, none⟩))], [], M, box b 27 (.int .i64 p.kind :: .int .i64 a0 :: .int .i64 a1 :: .int .i64 a2 :: .int .i64 a3 :: .int .i64 a4 :: .int .i64 a5 :: .int .i64 a6 :: .slice A p.labels.length c :: .slice B p.verdicts.length d :: .slice C p.rels.length e :: byteV p.sl) :: ([] ++ F)⟩) (fun y => y.1 ≤ x.inn.length) (fun y => x.inn.length - y.1) (0, _) (by simp) hsQ (fun y hi2 => ?_)
  obtain ⟨k, n2⟩ := y
  dsimp only at hi2 ⊢
  by_cases hlt2 : k < x.inn.length
  rotate_left
  · (repeat (first | ((with_reducible refine Tr.step rfl ?_); (first | (refine xmQ (z := ?_)) | (refine xaQ (z := ?_)) | ((with_reducible refine Knd.load ?_); (first | (refine xlQ (z := ?_)) | (refine xMQ (z := ?_)))) | ((with_reducible refine Knd.fieldAddr ?_); (first | (refine xfQ (z := ?_)) | (refine Exec.stab rfl (Stab.fieldD rfl (tysOk.get rfl) rfl rfl (tysOk.get rfl) rfl) rfl ?_))) | (refine xnQ (z := ?_)) | ((with_reducible refine Knd.binOp ?_); (first | (refine xdQ (z := ?_)) | (refine xiQ (z := ?_)))) | (refine xxQ (z := ?_)))) | (with_reducible first | apply Tr.next | apply Tr.seq | apply Tr.region | apply Tr.nil | apply Tr.exit | apply Tr.then_exit | apply Tr.in_normal) | ((with_reducible refine Tr.in_exit ?_ ?_); (exact rfl)) | (refine Tr.cond_f rfl (by first | (with_reducible assumption) | (with_reducible rfl) | (with_reducible exact (not_not_intro rfl)) | omega) ?_)))
    refine Tr.again (i + 1, n2) (by simp only; omega) (by simp only; omega) hsQ
  obtain ⟨z, hz⟩ := get_of_lt hlt2
  obtain ⟨hB, ch2, hbt, A3, k3, rfl, hi3⟩ := hr2.elem hz
  (repeat (first | ((with_reducible refine Tr.step rfl ?_); (first | (refine xmQ (z := ?_)) | (refine xaQ (z := ?_)) | ((with_reducible refine Knd.load ?_); (first | (refine xlQ (z := ?_)) | (refine xMQ (z := ?_)))) | ((with_reducible refine Knd.fieldAddr ?_); (first | (refine xfQ (z := ?_)) | (refine Exec.stab rfl (Stab.fieldD rfl (tysOk.get rfl) rfl rfl (tysOk.get rfl) rfl) rfl ?_))) | (refine xnQ (z := ?_)) | ((with_reducible refine Knd.binOp ?_); (first | (refine xdQ (z := ?_)) | (refine xiQ (z := ?_)))) | (refine xxQ (z := ?_)))) | (with_reducible first | apply Tr.next | apply Tr.seq | apply Tr.region | apply Tr.nil | apply Tr.skip | apply Tr.block | apply Tr.in_normal) | (refine Tr.cond_t rfl (by first | (with_reducible assumption) | (with_reducible rfl) | (with_reducible exact (not_not_intro rfl)) | omega) ?_)))
  refine Tr.again (k + 1, _) (by simp only; omega) (by simp only; omega) hsQ
theorem flat_le (l : List Frm) (h : ∀ f ∈ l, okF f) : (flatF TF l).length ≤ l.length * 65546 := by
  induction l with
  | nil => simp [flatF]
  | cons f l ih =>
    have h1 := ih fun x hx => h x (List.mem_cons_of_mem _ hx)
    have h2 := (h f List.mem_cons_self).2
    have h3 := encB_length TF_len f
    show (encB TF f ++ flatF TF l).length ≤ (l.length + 1) * 65546
    rw [List.length_append]
    omega
end Go.Proofs.YtghjhdbmkilakaaGreatDoor

/-
  Frames: the values of numbers, of lists of them, and of relations.
  Conditions: none.
-/
namespace Go.Proofs.YtghjhdbmkilakaaGreatDoor
open Go Bf
attribute [local irreducible] Tr Exec Stab HasTy Go.Addr.add IntKind.wrap
/-- a value that is a list whose cells the walk owns -/
def OwnL (M : Mem) (l : List Val) (r : Value) (A' : List Res) : Prop := ∃ A c cs, r = .agg #[.int .i64 3, .int .i64 0, .string ⟨#[]⟩, .slice A l.length c] ∧ c ≤ 9223372036854775807 ∧ A' = [ownS 53 4 A l.length c cs] ∧ Elems 4 RVal M cs l
theorem OwnL.pub {M M' M'' : Mem} {l : List Val} {r : Value} {A' : List Res} (h : OwnL M' l r A') : ∃ x, A' = [x] ∧ ∀ M'', Mem.le M' M'' → x.ok M'' → RV M'' r (lV l) := by
  obtain ⟨A, c, cs, rfl, hc, rfl, hE⟩ := h
  refine ⟨_, rfl, fun M'' hm hok => ⟨_, rfl, ?_⟩⟩
  exact RVal.close (s := []) (by omega) (by omega) (by simp) (SlOf.ofOwn hok rfl hc (hE.mono RVal.mono' hm))
theorem elems_snocV {M : Mem} {cs : List Value} {l : List Val} {v : Val} {u : List Value} (hE : Elems 4 RVal M cs l) (h : RVal M u v) : Elems 4 RVal M (cs ++ u) (l ++ [v]) := by
  obtain ⟨A, c, rfl, -⟩ := h.open_
  exact hE.append (Elems.one rfl h)
set_option maxHeartbeats 1000000 in
theorem number_fn (M : Mem) (n : Int) (hn : -9223372036854775808 ≤ n ∧ n ≤ 9223372036854775807) : Fn0 Tryz.prog 90 [.int .i64 n] M (fun r M' => RV M' r (nV n)) := by
  refine Fn.intro Tryz.func90 rfl rfl Tryz.ntmps90 rfl fun E F => ?_
  (repeat (first | ((with_reducible refine Tr.step rfl ?_); (first | (refine xmQ (z := ?_)) | (refine xWQ (z := ?_)) | ((with_reducible refine Knd.alloc ?_); (refine Exec.alloc (tysOk.get rfl) rfl rfl (fun b => ?_))) | ((with_reducible refine Knd.build ?_); (refine Exec.stab rfl (Stab.build tysOk rfl rfl rfl rfl (by repeat (first | exact BuildP.nil | ((apply BuildP.one); (rfl); (rfl); (first | rfl | assumption); (repeat (first | exact SetL.z | apply SetL.s)))))) rfl ?_)))) | (with_reducible first | apply Tr.next | apply Tr.seq | apply Tr.region | apply Tr.nil | apply Tr.ret)))
  (refine Tr.done (by first | exact .inl rfl | exact .inr rfl) rfl (by repeat (first | exact RVs.nil | (apply RVs.cons; (exact RV.cellW (by rfl) (tysOk.get (by rfl)) (by rfl) (by repeat (first | exact Has.here | apply Has.there)) (by first | rfl | assumption))))) (by first | exact Mem.le.refl _ | assumption) (by exact ⟨[_], rfl⟩) ⟨rfl, ?_⟩)
  exact ⟨_, rfl, RVal.close (A := none) (c := 0) (l := []) (s := []) (by omega) hn (by simp) (SlOf.nil _ _ _)⟩
set_option maxHeartbeats 4000000 in
theorem listI_own (M : Mem) (l : List Int) (A : Option Addr) (c : Nat) (hp : Ints M (.slice A l.length c) l) (hl : l.length ≤ 1000) (hb : ∀ x ∈ l, -9223372036854775808 ≤ x ∧ x ≤ 9223372036854775807) :
    Bf.Fn Tryz.prog 89 [.slice A l.length c, .func (.func 90) #[] #[]] M [] (fun r M' A' => OwnL M' (l.map nV) r A') := by
  refine Fn.intro Tryz.func89 rfl rfl Tryz.ntmps89 rfl fun E F => ?_
  (repeat (first | ((with_reducible refine Tr.step rfl ?_); (first | (refine xmQ (z := ?_)) | (refine xnQ (z := ?_)) | (refine xWQ (z := ?_)) | ((with_reducible refine Knd.alloc ?_); (refine Exec.alloc (tysOk.get rfl) rfl rfl (fun b => ?_))) | ((with_reducible refine Knd.build ?_); (refine Exec.stab rfl (Stab.build tysOk rfl rfl rfl rfl (by repeat (first | exact BuildP.nil | ((apply BuildP.one); (rfl); (rfl); (first | rfl | assumption); (repeat (first | exact SetL.z | apply SetL.s)))))) rfl ?_)))) | (with_reducible first | apply Tr.next | apply Tr.seq | apply Tr.region | apply Tr.nil | apply Tr.block)))
  generalize b = b5
  rename_i b4
  refine Tr.own_nil 53 4 ?_
  refine Tr.loop (α := Nat × Option Addr × Nat × List Value × Mem) (fun y => ⟨25, [(11, .int .i64 (y.1 : Int)), (10, .int .i64 l.length), (9, .slice A l.length c), (5, .pointer (some ⟨b5, 0, none⟩)), (4, .pointer (some ⟨b4, 0, none⟩)), (1, .func (.func 90) #[] #[])], [], y.2.2.2.2,
      ownS 53 4 y.2.1 ((l.take y.1).map nV).length y.2.2.1 y.2.2.2.1 :: box b5 53 [.int .i64 3, .int .i64 0, .string ⟨#[]⟩, .slice y.2.1 ((l.take y.1).map nV).length y.2.2.1] :: box b4 53 [.int .i64 0, .int .i64 0, .string ⟨#[]⟩, .slice none 0 0] :: ([] ++ F)⟩)
    (fun y => y.1 ≤ l.length ∧ Mem.le M y.2.2.2.2 ∧ y.2.2.1 ≤ 9223372036854775807 ∧ Elems 4 RVal y.2.2.2.2 y.2.2.2.1 ((l.take y.1).map nV)) (fun y => l.length - y.1) (0, none, 0, [], M) ⟨Nat.zero_le _, Mem.le.refl _, Nat.zero_le _, Elems.nil⟩ hsQ (fun y hy => ?_)
  obtain ⟨i, R, rc, cs, M1⟩ := y
  obtain ⟨hi, hm1, hc, hE⟩ := hy
  dsimp only at hi hm1 hc hE ⊢
  have htl : ((l.take i).map nV).length = i := by rw [List.length_map, List.length_take]; omega
  by_cases hlt : i < l.length
  rotate_left
  · have e : l.take i = l := List.take_of_length_le (by omega)
    rw [e] at hE ⊢
    (repeat (first | ((with_reducible refine Tr.step rfl ?_); (first | (refine xwQ (z := ?_)) | (refine xiQ (z := ?_)) | (refine xWQ (z := ?_)))) | (with_reducible first | apply Tr.next | apply Tr.seq | apply Tr.region | apply Tr.nil | apply Tr.exit | apply Tr.ret | apply Tr.then_exit) | ((with_reducible refine Tr.in_exit ?_ ?_); (exact rfl)) | (refine Tr.cond_f rfl (by first | (with_reducible assumption) | omega) ?_)))
    refine Tr.doneB (A' := [ownS 53 4 R (l.map nV).length rc cs]) [box b5 53 _, box b4 53 _] (by first | exact .inl rfl | exact .inr rfl) rfl (by repeat (first | exact RVs.nil | (apply RVs.cons; (exact RV.cellW (by rfl) (tysOk.get (by rfl)) (by rfl) (by repeat (first | exact Has.here | apply Has.there)) (by first | rfl | assumption))))) hm1 ((List.Perm.swap _ _ _).trans ((List.Perm.swap _ _ _).cons _)) ⟨R, rc, cs, rfl, hc, rfl, hE⟩
  obtain ⟨x, hx⟩ := get_of_lt hlt
  obtain ⟨hA, hat⟩ := Ints.at (hp.mono RI.mono hm1) hx
  have hxb := hb x (List.mem_of_getElem? hx)
  have hts : (l.take (i + 1)).map nV = (l.take i).map nV ++ [nV x] := by rw [List.take_add_one, hx]; simp
  (repeat (first | ((with_reducible refine Tr.step rfl ?_); (first | (refine xaQ (z := ?_)) | (refine xMQ (z := ?_)) | (refine xiQ (z := ?_)) | (refine xxQ (z := ?_)))) | (with_reducible first | apply Tr.next | apply Tr.seq | apply Tr.region | apply Tr.nil | apply Tr.skip | apply Tr.block) | (refine Tr.cond_t rfl (by first | (with_reducible assumption) | omega) ?_)))
  (((apply Tr.draw (box b5 53 [.int .i64 3, .int .i64 0, .string ⟨#[]⟩, .slice R ((l.take i).map nV).length rc] :: _)); (kernel_rfl)); (refine tkQ 0 (s := by exact sfQ) (h := ?_)); (refine tkQ 2 (s := by exact Stab.move rfl) (h := ?_)); (refine tkQ 3 (s := by exact Stab.move rfl) (h := ?_)); (refine tkQ 1 (s := by exact slQ) (h := ?_)); (refine TrA.eff 4 rfl (by kernel_rfl) (by exact .inl rfl) ?_))
  refine Exec.callv (A := []) (first := []) (cap := []) rfl rfl (number_fn M1 x hxb) (List.Perm.refl _) rfl ?_
  rintro r M2 _ hm2 ⟨rfl, hR⟩
  obtain ⟨A3, k3, rfl, hRV3, -⟩ := hR.open_
  obtain ⟨u, hu, hRu⟩ := hRV3
  have hu2 := congrArg (fun v => match v with | Value.agg a => a.toList | _ => []) hu
  simp only [List.toList_toArray] at hu2
  rw [← hu2] at hRu
  refine ⟨hm2, (by exact (Sub.mem (by repeat (first | exact Sub.refl | apply Sub.cons)))), ?_⟩
  ((refine TrA.eff 5 rfl (by kernel_rfl) (by exact .inl rfl) ?_); (((refine Knd.buildSlice ?_); ((refine Exec.buildSlice (tysOk.get rfl) rfl (tysOk.get rfl) rfl rfl rfl rfl rfl (by repeat (first | exact BuildP.nil | ((apply BuildP.many); (rfl); (rfl); (rfl); (rfl); (repeat (first | exact PutL.nil | ((apply PutL.cons); (repeat (first | exact SetL.z | apply SetL.s)))))))) rfl (fun b => ?_))))); (refine ⟨(by first | exact Mem.le.refl _ | assumption), (by exact (Sub.mem (by repeat (first | exact Sub.refl | apply Sub.cons)))), ?_⟩); (refine TrA.eff 6 rfl (by kernel_rfl) (by exact .inl rfl) ?_))
  refine Exec.append (A := R) (news := [.int .i64 (nV x).k, .int .i64 (nV x).n, .string ⟨(nV x).s.toArray⟩, .slice A3 (nV x).l.length k3]) rfl rfl (tysOk.get rfl) rfl (tysOk.get rfl) rfl rfl rfl rfl (by repeat (first | exact Del.here | apply Del.there)) (Src.box (by repeat (first | exact Has.here | apply Has.there))) rfl (by intro u hu; simp at hu; rcases hu with rfl | rfl | rfl | rfl <;> rfl) (by omega) (by omega) rfl (fun R2 rc2 hrc2 => ?_)
  refine ⟨Mem.le.refl _, (by exact (Sub.mem (by repeat (first | exact Sub.refl | apply Sub.cons)))), ?_⟩
  ((refine tkQ 7 (s := by exact sfQ) (h := ?_)); (refine TrA.effD 8 rfl (by kernel_rfl) (by kernel_rfl) (by exact .inl rfl) ?_); (((refine Knd.store ?_); ((refine xSQ (z := ?_))))); (refine ⟨_, fun _ h => h, ?_⟩); (refine TrA.done (by kernel_rfl) ?_))
  refine gvQ (r := box _ 53 [.int .i64 (nV x).k, _, _, _]) (k := ?_)
  rw [show ((l.take i).map nV).length + 1 = ((l.take (i + 1)).map nV).length by rw [hts, List.length_append, List.length_singleton]]
  (repeat (first | ((with_reducible refine Tr.step rfl ?_); (first | (refine xmQ (z := ?_)) | (refine xdQ (z := ?_)))) | (with_reducible first | apply Tr.next | apply Tr.region | apply Tr.nil | apply Tr.in_normal)))
  refine Tr.again (i + 1, R2, rc2, _, M2) ⟨by simp only; omega, hm1.trans hm2, hrc2, by simp only; rw [hts]; exact elems_snocV (hE.mono RVal.mono' hm2) hRu⟩ (by simp only; omega) hsQ

theorem Ok64.nV {n : Int} (h : Ok64 (nV n)) : -9223372036854775808 ≤ n ∧ n ≤ 9223372036854775807 := h.n
theorem Ok64.mem {α : Type} {g : α → Val} {l : List α} (h : Ok64 (lV (l.map g))) {x : α} (hx : x ∈ l) : Ok64 (g x) := h.l _ (List.mem_map.2 ⟨x, hx, rfl⟩)
set_option maxHeartbeats 1000000 in
theorem numbers_own (M : Mem) (l : List Int) (A : Option Addr) (c : Nat) (hp : Ints M (.slice A l.length c) l) (hl : l.length ≤ 1000) (hb : Ok64 (numsV l)) :
    Bf.Fn Tryz.prog 43 [.slice A l.length c] M [] (fun r M' A' => OwnL M' (l.map nV) r A') := by
  refine Fn.intro Tryz.func43 rfl rfl Tryz.ntmps43 rfl fun E F => ?_
  (repeat (first | ((with_reducible refine Tr.step rfl ?_); (first | (refine xmQ (z := ?_)) | ((with_reducible refine Knd.alloc ?_); (refine Exec.alloc (tysOk.get rfl) rfl rfl (fun b => ?_))))) | (with_reducible first | apply Tr.next | apply Tr.seq | apply Tr.region | apply Tr.nil)))
  ((refine Tr.step rfl ?_))
  refine Exec.call (A := []) rfl (listI_own M l A c hp hl (fun x hx => (hb.mem hx).nV)) (List.Perm.refl _) rfl ?_
  rintro _ M1 _ hm1 ⟨R, rc, cs, rfl, hc, rfl, hE⟩
  (repeat (first | ((with_reducible refine Tr.step rfl ?_); (with_reducible refine Knd.store ?_); (refine xWQ (z := ?_))) | (with_reducible first | apply Tr.next | apply Tr.nil | apply Tr.ret)))
  refine Tr.doneB (A' := [ownS 53 4 R (l.map nV).length rc cs]) [box _ 53 _] (by first | exact .inl rfl | exact .inr rfl) rfl (by repeat (first | exact RVs.nil | (apply RVs.cons; (exact RV.cellW (by rfl) (tysOk.get (by rfl)) (by rfl) (by repeat (first | exact Has.here | apply Has.there)) (by first | rfl | assumption))))) hm1 (List.Perm.swap _ _ _) ⟨R, rc, cs, rfl, hc, rfl, hE⟩
theorem numbers_fn (M : Mem) (l : List Int) (A : Option Addr) (c : Nat) (hp : Ints M (.slice A l.length c) l) (hl : l.length ≤ 1000) (hb : Ok64 (numsV l)) :
    Fn0 Tryz.prog 43 [.slice A l.length c] M (fun r M' => RV M' r (numsV l)) :=
  Fn.publish1 (numbers_own M l A c hp hl hb) fun _ _ _ _ h => h.pub (M := M) (M'' := M)
set_option maxHeartbeats 4000000 in
theorem listL_own (M : Mem) (l : List (List Int)) (A : Option Addr) (c : Nat) (hp : SlOf 1 RRowI M (.slice A l.length c) l) (hl : l.length ≤ 1000) (hb : ∀ x ∈ l, Ok64 (numsV x) ∧ x.length ≤ 1000) :
    Bf.Fn Tryz.prog 91 [.slice A l.length c, .func (.func 43) #[] #[]] M [] (fun r M' A' => OwnL M' (l.map numsV) r A') := by
  refine Fn.intro Tryz.func91 rfl rfl Tryz.ntmps91 rfl fun E F => ?_
  (repeat (first | ((with_reducible refine Tr.step rfl ?_); (first | (refine xmQ (z := ?_)) | (refine xnQ (z := ?_)) | (refine xWQ (z := ?_)) | ((with_reducible refine Knd.alloc ?_); (refine Exec.alloc (tysOk.get rfl) rfl rfl (fun b => ?_))) | ((with_reducible refine Knd.build ?_); (refine Exec.stab rfl (Stab.build tysOk rfl rfl rfl rfl (by repeat (first | exact BuildP.nil | ((apply BuildP.one); (rfl); (rfl); (first | rfl | assumption); (repeat (first | exact SetL.z | apply SetL.s)))))) rfl ?_)))) | (with_reducible first | apply Tr.next | apply Tr.seq | apply Tr.region | apply Tr.nil | apply Tr.block)))
  generalize b = b5
  rename_i b4
  refine Tr.own_nil 53 4 ?_
  refine Tr.loop (α := Nat × Option Addr × Nat × List Value × Mem) (fun y => ⟨25, [(11, .int .i64 (y.1 : Int)), (10, .int .i64 l.length), (9, .slice A l.length c), (5, .pointer (some ⟨b5, 0, none⟩)), (4, .pointer (some ⟨b4, 0, none⟩)), (1, .func (.func 43) #[] #[])], [], y.2.2.2.2,
      ownS 53 4 y.2.1 ((l.take y.1).map numsV).length y.2.2.1 y.2.2.2.1 :: box b5 53 [.int .i64 3, .int .i64 0, .string ⟨#[]⟩, .slice y.2.1 ((l.take y.1).map numsV).length y.2.2.1] :: box b4 53 [.int .i64 0, .int .i64 0, .string ⟨#[]⟩, .slice none 0 0] :: ([] ++ F)⟩)
    (fun y => y.1 ≤ l.length ∧ Mem.le M y.2.2.2.2 ∧ y.2.2.1 ≤ 9223372036854775807 ∧ Elems 4 RVal y.2.2.2.2 y.2.2.2.1 ((l.take y.1).map numsV)) (fun y => l.length - y.1) (0, none, 0, [], M) ⟨Nat.zero_le _, Mem.le.refl _, Nat.zero_le _, Elems.nil⟩ hsQ (fun y hy => ?_)
  obtain ⟨i, R, rc, cs, M1⟩ := y
  obtain ⟨hi, hm1, hc, hE⟩ := hy
  dsimp only at hi hm1 hc hE ⊢
  have htl : ((l.take i).map numsV).length = i := by rw [List.length_map, List.length_take]; omega
  by_cases hlt : i < l.length
  rotate_left
  · have e : l.take i = l := List.take_of_length_le (by omega)
    rw [e] at hE ⊢
    (repeat (first | ((with_reducible refine Tr.step rfl ?_); (first | (refine xwQ (z := ?_)) | (refine xiQ (z := ?_)) | (refine xWQ (z := ?_)))) | (with_reducible first | apply Tr.next | apply Tr.seq | apply Tr.region | apply Tr.nil | apply Tr.exit | apply Tr.ret | apply Tr.then_exit) | ((with_reducible refine Tr.in_exit ?_ ?_); (exact rfl)) | (refine Tr.cond_f rfl (by first | (with_reducible assumption) | omega) ?_)))
    refine Tr.doneB (A' := [ownS 53 4 R (l.map numsV).length rc cs]) [box b5 53 _, box b4 53 _] (by first | exact .inl rfl | exact .inr rfl) rfl (by repeat (first | exact RVs.nil | (apply RVs.cons; (exact RV.cellW (by rfl) (tysOk.get (by rfl)) (by rfl) (by repeat (first | exact Has.here | apply Has.there)) (by first | rfl | assumption))))) hm1 ((List.Perm.swap _ _ _).trans ((List.Perm.swap _ _ _).cons _)) ⟨R, rc, cs, rfl, hc, rfl, hE⟩
  obtain ⟨x, hx⟩ := get_of_lt hlt
  obtain ⟨hA, ch, hat, A5, k5, rfl, hx5⟩ := (hp.mono RRowI.mono hm1).elem hx
  obtain ⟨hxb, hxl⟩ := hb x (List.mem_of_getElem? hx)
  have hts : (l.take (i + 1)).map numsV = (l.take i).map numsV ++ [numsV x] := by rw [List.take_add_one, hx]; simp
  (repeat (first | ((with_reducible refine Tr.step rfl ?_); (first | (refine xaQ (z := ?_)) | (refine xMQ (z := ?_)) | (refine xiQ (z := ?_)) | (refine xxQ (z := ?_)))) | (with_reducible first | apply Tr.next | apply Tr.seq | apply Tr.region | apply Tr.nil | apply Tr.skip | apply Tr.block) | (refine Tr.cond_t rfl (by first | (with_reducible assumption) | omega) ?_)))
  (((apply Tr.draw (box b5 53 [.int .i64 3, .int .i64 0, .string ⟨#[]⟩, .slice R ((l.take i).map numsV).length rc] :: _)); (kernel_rfl)); (refine tkQ 0 (s := by exact sfQ) (h := ?_)); (refine tkQ 2 (s := by exact Stab.move rfl) (h := ?_)); (refine tkQ 3 (s := by exact Stab.move rfl) (h := ?_)); (refine tkQ 1 (s := by exact slQ) (h := ?_)); (refine TrA.eff 4 rfl (by kernel_rfl) (by exact .inl rfl) ?_))
  refine Exec.callv (A := []) (first := []) (cap := []) rfl rfl (numbers_fn M1 x _ _ hx5 hxl hxb) (List.Perm.refl _) rfl ?_
  rintro r M2 _ hm2 ⟨rfl, hR⟩
  obtain ⟨A3, k3, rfl, hRV3, -⟩ := hR.open_
  obtain ⟨u, hu, hRu⟩ := hRV3
  have hu2 := congrArg (fun v => match v with | Value.agg a => a.toList | _ => []) hu
  simp only [List.toList_toArray] at hu2
  rw [← hu2] at hRu
  refine ⟨hm2, (by exact (Sub.mem (by repeat (first | exact Sub.refl | apply Sub.cons)))), ?_⟩
  ((refine TrA.eff 5 rfl (by kernel_rfl) (by exact .inl rfl) ?_); (((refine Knd.buildSlice ?_); ((refine Exec.buildSlice (tysOk.get rfl) rfl (tysOk.get rfl) rfl rfl rfl rfl rfl (by repeat (first | exact BuildP.nil | ((apply BuildP.many); (rfl); (rfl); (rfl); (rfl); (repeat (first | exact PutL.nil | ((apply PutL.cons); (repeat (first | exact SetL.z | apply SetL.s)))))))) rfl (fun b => ?_))))); (refine ⟨(by first | exact Mem.le.refl _ | assumption), (by exact (Sub.mem (by repeat (first | exact Sub.refl | apply Sub.cons)))), ?_⟩); (refine TrA.eff 6 rfl (by kernel_rfl) (by exact .inl rfl) ?_))
  refine Exec.append (A := R) (news := [.int .i64 (numsV x).k, .int .i64 (numsV x).n, .string ⟨(numsV x).s.toArray⟩, .slice A3 (numsV x).l.length k3]) rfl rfl (tysOk.get rfl) rfl (tysOk.get rfl) rfl rfl rfl rfl (by repeat (first | exact Del.here | apply Del.there)) (Src.box (by repeat (first | exact Has.here | apply Has.there))) rfl (by intro u hu; simp at hu; rcases hu with rfl | rfl | rfl | rfl <;> rfl) (by omega) (by omega) rfl (fun R2 rc2 hrc2 => ?_)
  refine ⟨Mem.le.refl _, (by exact (Sub.mem (by repeat (first | exact Sub.refl | apply Sub.cons)))), ?_⟩
  ((refine tkQ 7 (s := by exact sfQ) (h := ?_)); (refine TrA.effD 8 rfl (by kernel_rfl) (by kernel_rfl) (by exact .inl rfl) ?_); (((refine Knd.store ?_); ((refine xSQ (z := ?_))))); (refine ⟨_, fun _ h => h, ?_⟩); (refine TrA.done (by kernel_rfl) ?_))
  refine gvQ (r := box _ 53 [.int .i64 (numsV x).k, _, _, _]) (k := ?_)
  rw [show ((l.take i).map numsV).length + 1 = ((l.take (i + 1)).map numsV).length by rw [hts, List.length_append, List.length_singleton]]
  (repeat (first | ((with_reducible refine Tr.step rfl ?_); (first | (refine xmQ (z := ?_)) | (refine xdQ (z := ?_)))) | (with_reducible first | apply Tr.next | apply Tr.region | apply Tr.nil | apply Tr.in_normal)))
  refine Tr.again (i + 1, R2, rc2, _, M2) ⟨by simp only; omega, hm1.trans hm2, hrc2, by simp only; rw [hts]; exact elems_snocV (hE.mono RVal.mono' hm2) hRu⟩ (by simp only; omega) hsQ

theorem listL_fn (M : Mem) (l : List (List Int)) (A : Option Addr) (c : Nat) (hp : SlOf 1 RRowI M (.slice A l.length c) l) (hl : l.length ≤ 1000) (hb : ∀ x ∈ l, Ok64 (numsV x) ∧ x.length ≤ 1000) :
    Fn0 Tryz.prog 91 [.slice A l.length c, .func (.func 43) #[] #[]] M (fun r M' => RV M' r (lV (l.map numsV))) :=
  Fn.publish1 (listL_own M l A c hp hl hb) fun _ _ _ _ h => h.pub (M := M) (M'' := M)
def cV (v : Val) (A : Option Addr) (k : Nat) : List Value := [.int .i64 v.k, .int .i64 v.n, .string ⟨v.s.toArray⟩, .slice A v.l.length k]
theorem cV_one (v : Val) (A : Option Addr) (k : Nat) : ∀ u ∈ cV v A k, u.oneCell' = true := by
  intro u hu
  simp only [cV, List.mem_cons, List.not_mem_nil, or_false] at hu
  rcases hu with rfl | rfl | rfl | rfl <;> rfl
def smallR (r : Rel) : Prop := r.out.length ≤ 1000 ∧ r.inn.length ≤ 1000 ∧ ∀ l ∈ r.inn, l.length ≤ 1000
theorem rightR.small {r : Rel} (h : rightR r) : smallR r := ⟨by have := h.1; omega, by have := h.1; have := h.2.1; omega, fun l hl => by have := h.2.2 l hl; omega⟩
theorem two_vals {M : Mem} {v w : Val} {u1 u2 : List Value} (h1 : RVal M u1 v) (h2 : RVal M u2 w) : Elems 4 RVal M (u1 ++ u2) [v, w] := by
  have := elems_snocV (elems_snocV (l := []) Elems.nil h1) h2
  simpa using this
theorem RV.cells {M : Mem} {a : Array Value} {v : Val} (h : RV M (.agg a) v) : RVal M a.toList v := by
  obtain ⟨u, hu, h⟩ := h
  cases hu
  exact h
set_option maxHeartbeats 4000000 in
theorem relation_fn (M : Mem) (x : Rel) (u : List Value) (hx : RRel M u x) (hs : smallR x) (hb : Ok64 (relV x)) :
    Fn0 Tryz.prog 45 [.agg u.toArray] M (fun r M' => RV M' r (relV x)) := by
  obtain ⟨A, c, B, d, rfl, h1, h2⟩ := hx
  have ho : Ok64 (numsV x.out) := hb.l _ (by show _ ∈ [numsV x.out, lV (x.inn.map numsV)]; simp)
  have hi : Ok64 (lV (x.inn.map numsV)) := hb.l _ (by show _ ∈ [numsV x.out, lV (x.inn.map numsV)]; simp)
  refine Fn.intro Tryz.func45 rfl rfl Tryz.ntmps45 rfl fun E F => ?_
  (repeat (first | ((with_reducible refine Tr.step rfl ?_); (first | ((with_reducible refine Knd.box ?_); (refine Exec.box rfl rfl (fun b => ?_))) | ((with_reducible refine Knd.alloc ?_); (refine Exec.alloc (tysOk.get rfl) rfl rfl (fun b => ?_))))) | (with_reducible first | apply Tr.next | apply Tr.seq | apply Tr.region | apply Tr.nil)))
  generalize b = b2
  rename_i b1
  (((apply Tr.draw (box b1 49 [.slice A x.out.length c, .slice B x.inn.length d] :: _)); (kernel_rfl)); (refine tkQ 0 (hB := by exact (Sub.mem (by repeat (first | exact Sub.refl | apply Sub.cons)))) (s := by exact sfQ) (h := ?_)); (refine tkQ 3 (s := by exact sfQ) (h := ?_)); (refine tkQ 1 (s := by exact slQ) (h := ?_)); (refine tkQ 4 (s := by exact slQ) (h := ?_)); (refine TrA.eff 2 rfl (by kernel_rfl) (by exact .inl rfl) ?_))
  refine Exec.call0 rfl (numbers_fn M x.out _ _ h1 hs.1 ho) rfl ?_
  rintro r1 M1 hm1 hR1
  obtain ⟨A1, k1, rfl, hR1', -⟩ := hR1.open_
  refine ⟨hm1, (by exact (Sub.mem (by repeat (first | exact Sub.refl | apply Sub.cons)))), ?_⟩
  ((refine TrA.eff 5 rfl (by kernel_rfl) (by exact .inl rfl) ?_))
  refine Exec.call0 rfl (listL_fn M1 x.inn _ _ (h2.mono RRowI.mono hm1) hs.2.1 (fun y hy => ⟨hi.mem hy, hs.2.2 y hy⟩)) rfl ?_
  rintro r2 M2 hm2 hR2
  obtain ⟨A2, k2, rfl, hR2', -⟩ := hR2.open_
  refine ⟨hm2, (by exact (Sub.mem (by repeat (first | exact Sub.refl | apply Sub.cons)))), ?_⟩
  ((refine TrA.eff 6 rfl (by kernel_rfl) (by exact .inl rfl) ?_); (((refine Knd.buildSlice ?_); ((refine Exec.buildSlice (tysOk.get rfl) rfl (tysOk.get rfl) rfl rfl rfl rfl rfl (by repeat (first | exact BuildP.nil | ((apply BuildP.many); (rfl); (rfl); (rfl); (rfl); (repeat (first | exact PutL.nil | ((apply PutL.cons); (repeat (first | exact SetL.z | apply SetL.s)))))))) rfl (fun b => ?_))))); (refine ⟨(by first | exact Mem.le.refl _ | assumption), (by exact (Sub.mem (by repeat (first | exact Sub.refl | apply Sub.cons)))), ?_⟩); (refine tkQ 7 (s := by exact Stab.build tysOk rfl rfl rfl rfl (by repeat (first | exact BuildP.nil | ((apply BuildP.one); (rfl); (rfl); (first | rfl | assumption); (repeat (first | exact SetL.z | apply SetL.s)))))) (h := ?_)); (refine TrA.effD 8 rfl (by kernel_rfl) (by kernel_rfl) (by exact .inl rfl) ?_); (((refine Knd.store ?_); ((refine xWQ (z := ?_))))); (refine ⟨_, fun _ h => h, ?_⟩); (refine TrA.done (by kernel_rfl) ?_))
  generalize b = b9
  refine Tr.cells (b := b9) (cs' := cV (numsV x.out) A1 k1 ++ cV (lV (x.inn.map numsV)) A2 k2) (by repeat (first | exact Upd.here | apply Upd.there)) rfl ?_
  refine pbQ (r := box b9 53 _) (k := fun M3 hm3 hok => ?_)
  have hm03 := hm1.trans (hm2.trans hm3)
  have hE := two_vals (hR1'.mono (hm2.trans hm3)).cells (hR2'.mono hm3).cells
  have hS : RVals M3 (.slice (some ⟨b9, 0, none⟩) 2 2) [numsV x.out, lV (x.inn.map numsV)] :=
    SlOf.ofBox hok (fun w hw => (List.mem_append.1 hw).elim (cV_one _ _ _ w) (cV_one _ _ _ w)) (by simp) hE
  (repeat (first | (with_reducible first | apply Tr.next | apply Tr.ret)))
  (refine Tr.done (by first | exact .inl rfl | exact .inr rfl) rfl (by repeat (first | exact RVs.nil | (apply RVs.cons; (exact RV.cellW (by rfl) (tysOk.get (by rfl)) (by rfl) (by repeat (first | exact Has.here | apply Has.there)) (by first | rfl | assumption))))) (by first | exact Mem.le.refl _ | assumption) (by exact ⟨[_, _], rfl⟩) ⟨rfl, ?_⟩)
  exact ⟨_, rfl, RVal.close (s := []) (l := [numsV x.out, lV (x.inn.map numsV)]) (by omega) (by omega) (by simp) hS⟩
set_option maxHeartbeats 4000000 in
theorem listR_own (M : Mem) (l : List Rel) (A : Option Addr) (c : Nat) (hp : RRels M (.slice A l.length c) l) (hl : l.length ≤ 1000) (hb : ∀ x ∈ l, Ok64 (relV x) ∧ smallR x) :
    Bf.Fn Tryz.prog 44 [.slice A l.length c, .func (.func 45) #[] #[]] M [] (fun r M' A' => OwnL M' (l.map relV) r A') := by
  refine Fn.intro Tryz.func44 rfl rfl Tryz.ntmps44 rfl fun E F => ?_
  (repeat (first | ((with_reducible refine Tr.step rfl ?_); (first | (refine xmQ (z := ?_)) | (refine xnQ (z := ?_)) | (refine xWQ (z := ?_)) | ((with_reducible refine Knd.alloc ?_); (refine Exec.alloc (tysOk.get rfl) rfl rfl (fun b => ?_))) | ((with_reducible refine Knd.build ?_); (refine Exec.stab rfl (Stab.build tysOk rfl rfl rfl rfl (by repeat (first | exact BuildP.nil | ((apply BuildP.one); (rfl); (rfl); (first | rfl | assumption); (repeat (first | exact SetL.z | apply SetL.s)))))) rfl ?_)))) | (with_reducible first | apply Tr.next | apply Tr.seq | apply Tr.region | apply Tr.nil | apply Tr.block)))
  generalize b = b5
  rename_i b4
  refine Tr.own_nil 53 4 ?_
  refine Tr.loop (α := Nat × Option Addr × Nat × List Value × Mem) (fun y => ⟨25, [(11, .int .i64 (y.1 : Int)), (10, .int .i64 l.length), (9, .slice A l.length c), (5, .pointer (some ⟨b5, 0, none⟩)), (4, .pointer (some ⟨b4, 0, none⟩)), (1, .func (.func 45) #[] #[])], [], y.2.2.2.2,
      ownS 53 4 y.2.1 ((l.take y.1).map relV).length y.2.2.1 y.2.2.2.1 :: box b5 53 [.int .i64 3, .int .i64 0, .string ⟨#[]⟩, .slice y.2.1 ((l.take y.1).map relV).length y.2.2.1] :: box b4 53 [.int .i64 0, .int .i64 0, .string ⟨#[]⟩, .slice none 0 0] :: ([] ++ F)⟩)
    (fun y => y.1 ≤ l.length ∧ Mem.le M y.2.2.2.2 ∧ y.2.2.1 ≤ 9223372036854775807 ∧ Elems 4 RVal y.2.2.2.2 y.2.2.2.1 ((l.take y.1).map relV)) (fun y => l.length - y.1) (0, none, 0, [], M) ⟨Nat.zero_le _, Mem.le.refl _, Nat.zero_le _, Elems.nil⟩ hsQ (fun y hy => ?_)
  obtain ⟨i, R, rc, cs, M1⟩ := y
  obtain ⟨hi, hm1, hc, hE⟩ := hy
  dsimp only at hi hm1 hc hE ⊢
  have htl : ((l.take i).map relV).length = i := by rw [List.length_map, List.length_take]; omega
  by_cases hlt : i < l.length
  rotate_left
  · have e : l.take i = l := List.take_of_length_le (by omega)
    rw [e] at hE ⊢
    (repeat (first | ((with_reducible refine Tr.step rfl ?_); (first | (refine xwQ (z := ?_)) | (refine xiQ (z := ?_)) | (refine xWQ (z := ?_)))) | (with_reducible first | apply Tr.next | apply Tr.seq | apply Tr.region | apply Tr.nil | apply Tr.exit | apply Tr.ret | apply Tr.then_exit) | ((with_reducible refine Tr.in_exit ?_ ?_); (exact rfl)) | (refine Tr.cond_f rfl (by first | (with_reducible assumption) | omega) ?_)))
    refine Tr.doneB (A' := [ownS 53 4 R (l.map relV).length rc cs]) [box b5 53 _, box b4 53 _] (by first | exact .inl rfl | exact .inr rfl) rfl (by repeat (first | exact RVs.nil | (apply RVs.cons; (exact RV.cellW (by rfl) (tysOk.get (by rfl)) (by rfl) (by repeat (first | exact Has.here | apply Has.there)) (by first | rfl | assumption))))) hm1 ((List.Perm.swap _ _ _).trans ((List.Perm.swap _ _ _).cons _)) ⟨R, rc, cs, rfl, hc, rfl, hE⟩
  obtain ⟨x, hx⟩ := get_of_lt hlt
  obtain ⟨hA, ch, hat, hx5⟩ := (hp.mono RRel.mono hm1).elem hx
  obtain ⟨hxb, hxl⟩ := hb x (List.mem_of_getElem? hx)
  have hx6 := hx5
  obtain ⟨A5, k5, A6, k6, rfl, -, -⟩ := hx6
  have hts : (l.take (i + 1)).map relV = (l.take i).map relV ++ [relV x] := by rw [List.take_add_one, hx]; simp
  (repeat (first | ((with_reducible refine Tr.step rfl ?_); (first | ((with_reducible refine Knd.load ?_); (refine Exec.stab rfl (Stab.loadMA rfl (tysOk.get rfl) rfl (by assumption) (by first | rfl | assumption)) rfl ?_)) | (refine xiQ (z := ?_)) | (refine xWQ (z := ?_)) | ((with_reducible refine Knd.alloc ?_); (refine Exec.alloc (tysOk.get rfl) rfl rfl (fun b => ?_))) | (refine xxQ (z := ?_)))) | (with_reducible first | apply Tr.next | apply Tr.seq | apply Tr.region | apply Tr.nil | apply Tr.skip | apply Tr.block) | (refine Tr.cond_t rfl (by first | (with_reducible assumption) | omega) ?_)))
  generalize b = b7
  refine ftQ (r := ownS 53 4 R _ _ _) (k := ?_)
  (((apply Tr.draw (box b7 49 [.slice A5 x.out.length k5, .slice A6 x.inn.length k6] :: box b5 53 [.int .i64 3, .int .i64 0, .string ⟨#[]⟩, .slice R ((l.take i).map relV).length rc] :: _)); (kernel_rfl)); (refine tkQ 0 (s := by exact sfQ) (h := ?_)); (refine tkQ 2 (s := by exact Stab.move rfl) (h := ?_)); (refine tkQ 3 (s := by exact swQ) (h := ?_)); (refine tkQ 1 (s := by exact slQ) (h := ?_)); (refine TrA.eff 4 rfl (by kernel_rfl) (by exact .inl rfl) ?_))
  refine Exec.callv (A := []) (first := []) (cap := []) rfl rfl (relation_fn M1 x _ hx5 hxl hxb) (List.Perm.refl _) rfl ?_
  rintro r M2 _ hm2 ⟨rfl, hR⟩
  obtain ⟨A3, k3, rfl, hRV3, -⟩ := hR.open_
  obtain ⟨u, hu, hRu⟩ := hRV3
  have hu2 := congrArg (fun v => match v with | Value.agg a => a.toList | _ => []) hu
  simp only [List.toList_toArray] at hu2
  rw [← hu2] at hRu
  refine ⟨hm2, (by exact (Sub.mem (by repeat (first | exact Sub.refl | apply Sub.cons)))), ?_⟩
  ((refine TrA.eff 5 rfl (by kernel_rfl) (by exact .inl rfl) ?_); (((refine Knd.buildSlice ?_); ((refine Exec.buildSlice (tysOk.get rfl) rfl (tysOk.get rfl) rfl rfl rfl rfl rfl (by repeat (first | exact BuildP.nil | ((apply BuildP.many); (rfl); (rfl); (rfl); (rfl); (repeat (first | exact PutL.nil | ((apply PutL.cons); (repeat (first | exact SetL.z | apply SetL.s)))))))) rfl (fun b => ?_))))); (refine ⟨(by first | exact Mem.le.refl _ | assumption), (by exact (Sub.mem (by repeat (first | exact Sub.refl | apply Sub.cons)))), ?_⟩); (refine TrA.eff 6 rfl (by kernel_rfl) (by exact .inl rfl) ?_))
  refine Exec.append (A := R) (news := [.int .i64 (relV x).k, .int .i64 (relV x).n, .string ⟨(relV x).s.toArray⟩, .slice A3 (relV x).l.length k3]) rfl rfl (tysOk.get rfl) rfl (tysOk.get rfl) rfl rfl rfl rfl (by repeat (first | exact Del.here | apply Del.there)) (Src.box (by repeat (first | exact Has.here | apply Has.there))) rfl (by intro u hu; simp at hu; rcases hu with rfl | rfl | rfl | rfl <;> rfl) (by omega) (by omega) rfl (fun R2 rc2 hrc2 => ?_)
  refine ⟨Mem.le.refl _, (by exact (Sub.mem (by repeat (first | exact Sub.refl | apply Sub.cons)))), ?_⟩
  ((refine tkQ 7 (s := by exact sfQ) (h := ?_)); (refine TrA.effD 8 rfl (by kernel_rfl) (by kernel_rfl) (by exact .inl rfl) ?_); (((refine Knd.store ?_); ((refine xSQ (z := ?_))))); (refine ⟨_, fun _ h => h, ?_⟩); (refine TrA.done (by kernel_rfl) ?_))
  refine gvQ (r := box b7 49 [_, _]) (k := ?_)
  refine gvQ (r := box _ 53 [.int .i64 (relV x).k, _, _, _]) (k := ?_)
  rw [show ((l.take i).map relV).length + 1 = ((l.take (i + 1)).map relV).length by rw [hts, List.length_append, List.length_singleton]]
  (repeat (first | ((with_reducible refine Tr.step rfl ?_); (first | (refine xmQ (z := ?_)) | (refine xdQ (z := ?_)))) | (with_reducible first | apply Tr.next | apply Tr.region | apply Tr.nil | apply Tr.in_normal)))
  refine Tr.again (i + 1, R2, rc2, _, M2) ⟨by simp only; omega, hm1.trans hm2, hrc2, by simp only; rw [hts]; exact elems_snocV (hE.mono RVal.mono' hm2) hRu⟩ (by simp only; omega) hsQ

theorem listR_fn (M : Mem) (l : List Rel) (A : Option Addr) (c : Nat) (hp : RRels M (.slice A l.length c) l) (hl : l.length ≤ 1000) (hb : ∀ x ∈ l, Ok64 (relV x) ∧ smallR x) :
    Fn0 Tryz.prog 44 [.slice A l.length c, .func (.func 45) #[] #[]] M (fun r M' => RV M' r (lV (l.map relV))) :=
  Fn.publish1 (listR_own M l A c hp hl hb) fun _ _ _ _ h => h.pub (M := M) (M'' := M)
end Go.Proofs.YtghjhdbmkilakaaGreatDoor

/-
  Frames: the value of a message.
  Conditions: none.
-/
namespace Go.Proofs.YtghjhdbmkilakaaGreatDoor
open Go Bf
attribute [local irreducible] Tr Exec Stab HasTy Go.Addr.add IntKind.wrap
theorem MsgW.head {m : Msg} (h : MsgW m) : Ok64 (numsV m.head) := ok_lV fun x hx => by
  have := h.2.2.l
  exact this x (by show x ∈ m.head.map nV ++ _; exact List.mem_append_left _ hx)
theorem MsgW.labels {m : Msg} (h : MsgW m) : Ok64 (numsV m.labels) := h.2.2.l _ (by show _ ∈ m.head.map nV ++ [numsV m.labels, numsV m.verdicts, lV (m.rels.map relV), .mk 2 0 m.sl []]; simp)
theorem MsgW.verdicts {m : Msg} (h : MsgW m) : Ok64 (numsV m.verdicts) := h.2.2.l _ (by show _ ∈ m.head.map nV ++ [numsV m.labels, numsV m.verdicts, lV (m.rels.map relV), .mk 2 0 m.sl []]; simp)
theorem MsgW.rels {m : Msg} (h : MsgW m) : Ok64 (lV (m.rels.map relV)) := h.2.2.l _ (by show _ ∈ m.head.map nV ++ [numsV m.labels, numsV m.verdicts, lV (m.rels.map relV), .mk 2 0 m.sl []]; simp)
theorem at_of_box {M : Mem} {b t off : Nat} {cs : List Value} (h : (box b t cs).ok M) : At M ⟨b, off, none⟩ (cs.drop off) := by
  refine ⟨rfl, _, _, _, h, fun j u hj => ?_⟩
  rw [List.getElem?_drop] at hj
  simpa using hj
set_option maxHeartbeats 8000000 in
theorem value_msg (M : Mem) (m : Msg) (u : List Value) (hp : RMsg M u m) (hr : rightM m) :
    Fn0 Tryz.prog 18 [.agg u.toArray] M (fun r M' => RV M' r (msgV m)) := by
  obtain ⟨⟨a0, a1, a2, a3, a4, a5, a6, A, c, B, d, C, e, pe, rfl, p1, p2, p3⟩, pw, -⟩ := hp
  have psl := pw.1
  have psl2 : (byteV m.sl).length = 32 := by simpa using psl
  obtain ⟨-, -, -, r1, r2, r3, r4⟩ := hr
  have hok0 := pw.head
  rw [pe] at hok0
  refine Fn.intro Tryz.func18 rfl rfl Tryz.ntmps18 rfl fun E F => ?_
  (repeat (first | ((with_reducible refine Tr.step rfl ?_); (first | (refine xlQ (z := ?_)) | (refine xfQ (z := ?_)) | ((with_reducible refine Knd.box ?_); (refine Exec.box rfl rfl (fun b => ?_))) | ((with_reducible refine Knd.alloc ?_); (refine Exec.alloc (tysOk.get rfl) rfl rfl (fun b => ?_))) | ((with_reducible refine Knd.buildSlice ?_); (refine Exec.buildSlice (tysOk.get rfl) rfl (tysOk.get rfl) rfl rfl rfl rfl rfl (by repeat (first | exact BuildP.nil | ((apply BuildP.one); (rfl); (rfl); (first | rfl | assumption); (repeat (first | exact SetL.z | apply SetL.s))) | ((apply BuildP.many); (rfl); (rfl); (rfl); (rfl); (repeat (first | exact PutL.nil | ((apply PutL.cons); (repeat (first | exact SetL.z | apply SetL.s)))))))) rfl (fun b => ?_))))) | (with_reducible first | apply Tr.next | apply Tr.seq | apply Tr.region | apply Tr.nil)))
  generalize b = b7
  rename_i b1 b2
  refine Tr.cells (b := b7) (cs' := intV [a0, a1, a2, a3, a4, a5, a6]) (by repeat (first | exact Upd.here | apply Upd.there)) rfl ?_
  refine pbQ (r := box b7 3 _) (k := fun M1 hm1 hok1 => ?_)
  have hI := Ints.ofBox hok1 (by simp)
  ((refine Tr.step rfl ?_))
  refine Exec.call (A := []) rfl (numbers_own M1 [a0, a1, a2, a3, a4, a5, a6] _ _ hI (by simp) hok0) (List.Perm.refl _) rfl ?_
  rintro _ M2 _ hm2 ⟨R, rc, cs, rfl, hc, rfl, hE⟩
  (repeat (first | ((with_reducible refine Tr.step rfl ?_); (first | (refine xWQ (z := ?_)) | ((with_reducible refine Knd.alloc ?_); (refine Exec.alloc (tysOk.get rfl) rfl rfl (fun b => ?_))))) | (with_reducible first | apply Tr.next | apply Tr.seq | apply Tr.nil)))
  generalize b = b3
  have hm02 := hm1.trans hm2
  refine ftQ (r := ownS 53 4 R _ _ _) (k := ?_)
  refine Tr.less [(3, .pointer (some ⟨b3, 0, none⟩)), (2, .pointer (some ⟨b2, 0, none⟩)), (1, .pointer (some ⟨b1, 0, none⟩))] _ (by repeat (first | exact SubFr.nil | refine SubFr.cons rfl ?_)) (by repeat (first | exact DropL.refl | apply DropL.skip)) ?_
  (((apply Tr.draw (box b3 53 [.int .i64 3, .int .i64 0, .string ⟨#[]⟩, .slice R 7 rc] :: _)); (kernel_rfl)); (refine tkQ 0 (hB := by exact (Sub.mem (by repeat (first | exact Sub.refl | apply Sub.cons)))) (s := by exact sfQ) (h := ?_)); (refine tkQ 2 (s := by exact sfQ) (h := ?_)); (refine tkQ 5 (s := by exact sfQ) (h := ?_)); (refine tkQ 8 (s := by exact sfQ) (h := ?_)); (refine tkQ 1 (s := by exact slQ) (h := ?_)); (refine tkQ 3 (s := by exact slQ) (h := ?_)); (refine tkQ 6 (s := by exact slQ) (h := ?_)); (refine tkQ 9 (s := by exact slQ) (h := ?_)); (refine TrA.eff 4 rfl (by kernel_rfl) (by first | exact .inl rfl | exact .inr ⟨_, _, _, rfl, rfl, rfl⟩) ?_))
  refine Exec.call0 rfl (numbers_fn M2 m.labels _ _ (p1.mono RI.mono hm02) (by omega) pw.labels) rfl ?_
  rintro x1 M3 hm3 hR1
  obtain ⟨A1, k1, rfl, hR1', -⟩ := hR1.open_
  refine ⟨hm3, (by exact (Sub.mem (by repeat (first | exact Sub.refl | apply Sub.cons)))), ?_⟩
  have hm03 := hm02.trans hm3
  ((refine TrA.eff 7 rfl (by kernel_rfl) (by first | exact .inl rfl | exact .inr ⟨_, _, _, rfl, rfl, rfl⟩) ?_))
  refine Exec.call0 rfl (numbers_fn M3 m.verdicts _ _ (p2.mono RI.mono hm03) (by omega) pw.verdicts) rfl ?_
  rintro x2 M4 hm4 hR2
  obtain ⟨A2, k2, rfl, hR2', -⟩ := hR2.open_
  refine ⟨hm4, (by exact (Sub.mem (by repeat (first | exact Sub.refl | apply Sub.cons)))), ?_⟩
  have hm04 := hm03.trans hm4
  ((refine TrA.eff 10 rfl (by kernel_rfl) (by first | exact .inl rfl | exact .inr ⟨_, _, _, rfl, rfl, rfl⟩) ?_))
  refine Exec.call0 rfl (listR_fn M4 m.rels _ _ (p3.mono RRel.mono hm04) (by omega) (fun x hx => ⟨pw.rels.mem hx, (r4 x hx).small⟩)) rfl ?_
  rintro x3 M5 hm5 hR3
  obtain ⟨A3, k3, rfl, hR3', -⟩ := hR3.open_
  refine ⟨hm5, (by exact (Sub.mem (by repeat (first | exact Sub.refl | apply Sub.cons)))), ?_⟩
  have hm05 := hm04.trans hm5
  have hE3 : Elems 4 RVal M5 (cV (numsV m.labels) A1 k1 ++ cV (numsV m.verdicts) A2 k2 ++ cV (lV (m.rels.map relV)) A3 k3) [numsV m.labels, numsV m.verdicts, lV (m.rels.map relV)] :=
    elems_snocV (l := [numsV m.labels, numsV m.verdicts]) (elems_snocV (l := [numsV m.labels]) (elems_snocV (l := []) Elems.nil (hR1'.mono (hm4.trans hm5)).cells) (hR2'.mono hm5).cells) hR3'.cells
  ((refine TrA.eff 11 rfl (by kernel_rfl) (by first | exact .inl rfl | exact .inr ⟨_, _, _, rfl, rfl, rfl⟩) ?_); (((refine Knd.buildSlice ?_); ((refine Exec.buildSlice (tysOk.get rfl) rfl (tysOk.get rfl) rfl rfl rfl rfl rfl (by repeat (first | exact BuildP.nil | ((apply BuildP.many); (rfl); (rfl); (rfl); (rfl); (repeat (first | exact PutL.nil | ((apply PutL.cons); (repeat (first | exact SetL.z | apply SetL.s)))))))) rfl (fun b => ?_))))); (refine ⟨(by first | exact Mem.le.refl _ | assumption), (by exact (Sub.mem (by repeat (first | exact Sub.refl | apply Sub.cons)))), ?_⟩))
  generalize b = b9
  refine TrA.cells (b := b9) (cs' := cV (numsV m.labels) A1 k1 ++ cV (numsV m.verdicts) A2 k2 ++ cV (lV (m.rels.map relV)) A3 k3) (by repeat (first | exact Upd.here | apply Upd.there)) rfl ?_
  ((refine TrA.eff 12 rfl (by kernel_rfl) (by first | exact .inl rfl | exact .inr ⟨_, _, _, rfl, rfl, rfl⟩) ?_))
  refine Exec.append (A := R) (news := cV (numsV m.labels) A1 k1 ++ cV (numsV m.verdicts) A2 k2 ++ cV (lV (m.rels.map relV)) A3 k3) rfl rfl (tysOk.get rfl) rfl (tysOk.get rfl) rfl rfl rfl rfl (by repeat (first | exact Del.here | apply Del.there)) (Src.box (by repeat (first | exact Has.here | apply Has.there))) rfl (fun w hw => (List.mem_append.1 hw).elim (fun h => (List.mem_append.1 h).elim (cV_one _ _ _ w) (cV_one _ _ _ w)) (cV_one _ _ _ w)) (by simp) (by simp) rfl (fun R2 rc2 hrc2 => ?_)
  refine ⟨Mem.le.refl _, (by exact (Sub.mem (by repeat (first | exact Sub.refl | apply Sub.cons)))), ?_⟩
  ((refine tkQ 13 (s := by exact sfQ) (h := ?_)); (refine TrA.effD 14 rfl (by kernel_rfl) (by kernel_rfl) (by first | exact .inl rfl | exact .inr ⟨_, _, _, rfl, rfl, rfl⟩) ?_); (((refine Knd.store ?_); ((refine xSQ (z := ?_))))); (refine ⟨_, fun _ h => h, ?_⟩); (refine TrA.done (by kernel_rfl) ?_))
  refine gvQ (r := box b9 _ _) (k := ?_)
  have hE10 := (hE.mono RVal.mono' (hm3.trans (hm4.trans hm5))).append hE3
  generalize cs ++ (cV (numsV m.labels) A1 k1 ++ cV (numsV m.verdicts) A2 k2 ++ cV (lV (m.rels.map relV)) A3 k3) = cs2 at hE10 ⊢
  refine pbQ (r := box b1 27 _) (k := fun M6 hm6 hok6 => ?_)
  have hseal : BSl M6 (.slice (some ⟨b1, 11, none⟩) 32 32) m.sl := BSl.ofAt (at_of_box (off := 11) hok6) psl (by omega)
  have hm06 := hm05.trans hm6
  refine Tr.less [(3, .pointer (some ⟨b3, 0, none⟩)), (2, .pointer (some ⟨b2, 0, none⟩)), (1, .pointer (some ⟨b1, 0, none⟩))] _ (by repeat (first | exact SubFr.nil | refine SubFr.cons rfl ?_)) (by repeat (first | exact DropL.refl | apply DropL.skip)) ?_
  (repeat (first | (with_reducible first | apply Tr.next | apply Tr.seq)))
  (((apply Tr.draw (box b3 53 [.int .i64 3, .int .i64 0, .string ⟨#[]⟩, .slice R2 (7 + 3) rc2] :: _)); (kernel_rfl)); (refine tkQ 0 (hB := by exact (Sub.mem (by repeat (first | exact Sub.refl | apply Sub.cons)))) (s := by exact sfQ) (h := ?_)); (refine tkQ 2 (s := by exact sfQ) (h := ?_)); (refine tkQ 1 (s := by exact slQ) (h := ?_)); (refine tkQ 3 (s := by exact Stab.sliceArr rfl (tysOk.get rfl) rfl (tysOk.get rfl) rfl) (h := ?_)); (refine tkQ 4 (s := by exact Stab.bstrB rfl (tysOk.get rfl) (tysOk.get rfl) rfl rfl (tysOk.get rfl) rfl (by assumption)) (h := ?_)); (refine tkQ 5 (s := by exact Stab.build tysOk rfl rfl rfl rfl (by repeat (first | exact BuildP.nil | ((apply BuildP.one); (rfl); (rfl); (first | rfl | assumption); (repeat (first | exact SetL.z | apply SetL.s)))))) (h := ?_)); (refine TrA.eff 6 rfl (by kernel_rfl) (by first | exact .inl rfl | exact .inr ⟨_, _, _, rfl, rfl, rfl⟩) ?_); (((refine Knd.buildSlice ?_); ((refine Exec.buildSlice (tysOk.get rfl) rfl (tysOk.get rfl) rfl rfl rfl rfl rfl (by repeat (first | exact BuildP.nil | ((apply BuildP.many); (rfl); (rfl); (rfl); (rfl); (repeat (first | exact PutL.nil | ((apply PutL.cons); (repeat (first | exact SetL.z | apply SetL.s)))))))) rfl (fun b => ?_))))); (refine ⟨(by first | exact Mem.le.refl _ | assumption), (by exact (Sub.mem (by repeat (first | exact Sub.refl | apply Sub.cons)))), ?_⟩); (refine TrA.eff 7 rfl (by kernel_rfl) (by first | exact .inl rfl | exact .inr ⟨_, _, _, rfl, rfl, rfl⟩) ?_))
  refine Exec.append (A := R2) (news := [.int .i64 2, .int .i64 0, .string ⟨m.sl.toArray⟩, .slice none 0 0]) rfl rfl (tysOk.get rfl) rfl (tysOk.get rfl) rfl rfl rfl rfl (by repeat (first | exact Del.here | apply Del.there)) (Src.box (by repeat (first | exact Has.here | apply Has.there))) rfl (by intro u hu; simp at hu; rcases hu with rfl | rfl | rfl | rfl <;> rfl) (by simp) (by simp) rfl (fun R3 rc3 hrc3 => ?_)
  refine ⟨Mem.le.refl _, (by exact (Sub.mem (by repeat (first | exact Sub.refl | apply Sub.cons)))), ?_⟩
  ((refine tkQ 8 (s := by exact sfQ) (h := ?_)); (refine TrA.effD 9 rfl (by kernel_rfl) (by kernel_rfl) (by first | exact .inl rfl | exact .inr ⟨_, _, _, rfl, rfl, rfl⟩) ?_); (((refine Knd.store ?_); ((refine xSQ (z := ?_))))); (refine ⟨_, fun _ h => h, ?_⟩); (refine TrA.done (by kernel_rfl) ?_))
  have hV11 : RVal M6 [.int .i64 2, .int .i64 0, .string ⟨m.sl.toArray⟩, .slice none 0 0] (.mk 2 0 m.sl []) := RVal.close (l := []) (by omega) (by omega) (by omega) (SlOf.nil _ _ _)
  have hE11 := elems_snocV (hE10.mono RVal.mono' hm6) hV11
  refine pbQ (r := ownS 53 4 R3 _ _ _) (k := fun M7 hm7 hok7 => ?_)
  have hm07 := hm06.trans hm7
  (repeat (first | ((with_reducible refine Tr.step rfl ?_); (first | (refine xwQ (z := ?_)) | (refine xWQ (z := ?_)))) | (with_reducible first | apply Tr.next | apply Tr.seq | apply Tr.region | apply Tr.nil | apply Tr.ret)))
  (refine Tr.done (by first | exact .inl rfl | exact .inr rfl) rfl (by repeat (first | exact RVs.nil | (apply RVs.cons; (exact RV.cellW (by rfl) (tysOk.get (by rfl)) (by rfl) (by repeat (first | exact Has.here | apply Has.there)) (by first | rfl | assumption))))) (by first | exact Mem.le.refl _ | assumption) (by exact ⟨[_, _, _], rfl⟩) ⟨rfl, ?_⟩)
  refine ⟨_, rfl, ?_⟩
  have hfin : RVals M7 (.slice R3 (7 + 3 + 1) rc3) (m.head.map nV ++ [numsV m.labels, numsV m.verdicts, lV (m.rels.map relV), .mk 2 0 m.sl []]) := by
    rw [pe]
    exact SlOf.ofOwn hok7 rfl hrc3 (hE11.mono RVal.mono' hm7)
  have hlen : (m.head.map nV ++ [numsV m.labels, numsV m.verdicts, lV (m.rels.map relV), .mk 2 0 m.sl []]).length = 7 + 3 + 1 := by rw [pe]; rfl
  have := RVal.close (k := 3) (n := 0) (s := []) (l := m.head.map nV ++ [numsV m.labels, numsV m.verdicts, lV (m.rels.map relV), .mk 2 0 m.sl []]) (A := R3) (c := rc3) (by omega) (by omega) (by simp) (by rw [hlen]; exact hfin)
  rw [hlen] at this
  exact this
end Go.Proofs.YtghjhdbmkilakaaGreatDoor

/-
  Frames: which messages are right.
  Conditions: none.
-/
namespace Go.Proofs.YtghjhdbmkilakaaGreatDoor
open Go Bf
attribute [local irreducible] Tr Exec Stab HasTy Go.Addr.add IntKind.wrap
set_option maxHeartbeats 1000000 in
theorem fewl_fn (M : Mem) (A : Option Addr) (n c : Nat) : Fn0 Tryz.prog 40 [.slice A n c] M (fun r M' => r = .bool (decide ((n : Int) ≤ 64)) ∧ M = M') := by
  refine Fn.intro Tryz.func40 rfl rfl Tryz.ntmps40 rfl fun E F => ?_
  (repeat (first | ((with_reducible refine Tr.step rfl ?_); (first | (refine xmQ (z := ?_)) | (refine xaQ (z := ?_)) | (refine xnQ (z := ?_)) | (refine xiQ (z := ?_)))) | (with_reducible first | apply Tr.next | apply Tr.seq | apply Tr.region | apply Tr.nil | apply Tr.ret)))
  (refine dnQ (hL := by exact ⟨[], rfl⟩) (k := ⟨rfl, ?_⟩))
  exact ⟨rfl, rfl⟩
theorem all_take {α : Type} {P : α → Prop} {l : List α} {i : Nat} {x : α} (hx : l[i]? = some x) (h : ∀ y ∈ l.take i, P y) (hp : P x) : ∀ y ∈ l.take (i + 1), P y := by
  intro y hy
  rw [List.take_add_one, hx] at hy
  rcases List.mem_append.1 hy with hy | hy
  · exact h y hy
  · simp at hy; subst hy; exact hp
set_option maxHeartbeats 8000000 in
theorem right_fn (M : Mem) (m : Msg) (u : List Value) (hp : RMsg M u m) :
    Fn0 Tryz.prog 16 [.agg u.toArray] M (fun r M' => r = .bool (decide (rightM m)) ∧ M = M') := by
  obtain ⟨⟨a0, a1, a2, a3, a4, a5, a6, A, c, B, d, C, e, pe, rfl, p1, p2, p3⟩, pw, -⟩ := hp
  have psl2 : (byteV m.sl).length = 32 := by simpa using pw.1
  have hd0 : m.head.getD 0 0 = a0 := by rw [pe]; rfl
  have hd1 : m.head.getD 1 0 = a1 := by rw [pe]; rfl
  have l3 := p3.len_le
  have hR : rightM m ↔ (1 ≤ m.kind ∧ m.kind ≤ 8) ∧ (0 ≤ a0 ∧ a0 ≤ 15) ∧ (0 ≤ a1 ∧ a1 ≤ 15) ∧ m.labels.length ≤ 64 ∧ m.verdicts.length ≤ 64 ∧ m.rels.length ≤ 64 ∧ ∀ r ∈ m.rels, rightR r := by
    rw [← hd0, ← hd1]; exact Iff.rfl
  refine Fn.intro Tryz.func16 rfl rfl Tryz.ntmps16 rfl fun E F => ?_
  by_cases k0 : m.kind < 1
  · rw [decide_eq_false (p := rightM m) (fun h => by have := (hR.1 h).1; omega)]
    (repeat (first | ((with_reducible refine Tr.step rfl ?_); (first | (refine xmQ (z := ?_)) | (refine xaQ (z := ?_)) | (refine xlQ (z := ?_)) | (refine xfQ (z := ?_)) | (refine xiQ (z := ?_)) | ((with_reducible refine Knd.pick ?_); (first | (refine Exec.stab rfl (Stab.pick_t rfl (by (with_reducible rfl)) rfl) rfl ?_) | (refine Exec.stab rfl (Stab.pick_td rfl (by (with_reducible assumption)) rfl) rfl ?_))) | ((with_reducible refine Knd.box ?_); (refine Exec.box rfl rfl (fun b => ?_))))) | (with_reducible first | apply Tr.next | apply Tr.seq | apply Tr.region | apply Tr.nil) | (refine Tr.guard_s0 rfl rfl rfl (by (with_reducible rfl)) rfl rfl ?_) | (refine Tr.guard_n' rfl rfl rfl (by (with_reducible assumption)) rfl rfl ?_) | (with_reducible first | apply Tr.ret | apply Tr.then_ret) | (refine Tr.cond_bt rfl (by (with_reducible rfl)) ?_)))
    (refine dnQ (hL := by exact ⟨[_], rfl⟩) (k := ⟨rfl, ?_⟩))
    exact ⟨rfl, rfl⟩
  by_cases k1 : m.kind > 8
  · rw [decide_eq_false (p := rightM m) (fun h => by have := (hR.1 h).1; omega)]
    (repeat (first | ((with_reducible refine Tr.step rfl ?_); (first | (refine xmQ (z := ?_)) | (refine xaQ (z := ?_)) | (refine xlQ (z := ?_)) | (refine xfQ (z := ?_)) | (refine xiQ (z := ?_)) | ((with_reducible refine Knd.pick ?_); (first | (refine Exec.stab rfl (Stab.pick_t rfl (by (with_reducible rfl)) rfl) rfl ?_) | (refine Exec.stab rfl (Stab.pick_td rfl (by (with_reducible assumption)) rfl) rfl ?_) | (refine Exec.stab rfl (Stab.pick_fd rfl (by (with_reducible assumption)) rfl) rfl ?_))) | ((with_reducible refine Knd.box ?_); (refine Exec.box rfl rfl (fun b => ?_))))) | (with_reducible first | apply Tr.next | apply Tr.seq | apply Tr.region | apply Tr.nil) | (refine Tr.guard_s0 rfl rfl rfl (by (with_reducible rfl)) rfl rfl ?_) | ((refine Tr.guard_y' rfl rfl rfl (by (with_reducible assumption)) ?_); (first | (refine xlQ (z := ?_)) | (refine xfQ (z := ?_)) | (refine xiQ (z := ?_)))) | (refine Tr.guard_n' rfl rfl rfl (by (with_reducible assumption)) rfl rfl ?_) | (with_reducible first | apply Tr.ret | apply Tr.then_ret) | (refine Tr.cond_bt rfl (by (with_reducible rfl)) ?_)))
    (refine dnQ (hL := by exact ⟨[_], rfl⟩) (k := ⟨rfl, ?_⟩))
    exact ⟨rfl, rfl⟩
  by_cases k2 : a0 < 0
  · rw [decide_eq_false (p := rightM m) (fun h => by have := (hR.1 h).2.1; omega)]
    (repeat (first | ((with_reducible refine Tr.step rfl ?_); (first | (refine xmQ (z := ?_)) | (refine xaQ (z := ?_)) | (refine xlQ (z := ?_)) | (refine xfQ (z := ?_)) | (refine xiQ (z := ?_)) | ((with_reducible refine Knd.pick ?_); (first | (refine Exec.stab rfl (Stab.pick_t rfl (by (with_reducible rfl)) rfl) rfl ?_) | (refine Exec.stab rfl (Stab.pick_td rfl (by (with_reducible assumption)) rfl) rfl ?_) | (refine Exec.stab rfl (Stab.pick_fd rfl (by (with_reducible assumption)) rfl) rfl ?_))) | ((with_reducible refine Knd.box ?_); (refine Exec.box rfl rfl (fun b => ?_))))) | (with_reducible first | apply Tr.next | apply Tr.seq | apply Tr.region | apply Tr.nil) | (refine Tr.guard_s0 rfl rfl rfl (by (with_reducible rfl)) rfl rfl ?_) | ((refine Tr.guard_y' rfl rfl rfl (by (with_reducible assumption)) ?_); (first | (refine xlQ (z := ?_)) | (refine xfQ (z := ?_)) | (refine xiQ (z := ?_)))) | (refine Tr.guard_n' rfl rfl rfl (by (with_reducible assumption)) rfl rfl ?_) | (with_reducible first | apply Tr.ret | apply Tr.then_ret) | (refine Tr.cond_bt rfl (by (with_reducible rfl)) ?_)))
    (refine dnQ (hL := by exact ⟨[_], rfl⟩) (k := ⟨rfl, ?_⟩))
    exact ⟨rfl, rfl⟩
  by_cases k3 : a0 > 15
  · rw [decide_eq_false (p := rightM m) (fun h => by have := (hR.1 h).2.1; omega)]
    (repeat (first | ((with_reducible refine Tr.step rfl ?_); (first | (refine xmQ (z := ?_)) | (refine xaQ (z := ?_)) | (refine xlQ (z := ?_)) | (refine xfQ (z := ?_)) | (refine xiQ (z := ?_)) | ((with_reducible refine Knd.pick ?_); (first | (refine Exec.stab rfl (Stab.pick_t rfl (by (with_reducible rfl)) rfl) rfl ?_) | (refine Exec.stab rfl (Stab.pick_td rfl (by (with_reducible assumption)) rfl) rfl ?_) | (refine Exec.stab rfl (Stab.pick_fd rfl (by (with_reducible assumption)) rfl) rfl ?_))) | ((with_reducible refine Knd.box ?_); (refine Exec.box rfl rfl (fun b => ?_))))) | (with_reducible first | apply Tr.next | apply Tr.seq | apply Tr.region | apply Tr.nil) | (refine Tr.guard_s0 rfl rfl rfl (by (with_reducible rfl)) rfl rfl ?_) | ((refine Tr.guard_y' rfl rfl rfl (by (with_reducible assumption)) ?_); (first | (refine xlQ (z := ?_)) | (refine xfQ (z := ?_)) | (refine xiQ (z := ?_)))) | (refine Tr.guard_n' rfl rfl rfl (by (with_reducible assumption)) rfl rfl ?_) | (with_reducible first | apply Tr.ret | apply Tr.then_ret) | (refine Tr.cond_bt rfl (by (with_reducible rfl)) ?_)))
    (refine dnQ (hL := by exact ⟨[_], rfl⟩) (k := ⟨rfl, ?_⟩))
    exact ⟨rfl, rfl⟩
  by_cases k4 : a1 < 0
  · rw [decide_eq_false (p := rightM m) (fun h => by have := (hR.1 h).2.2.1; omega)]
    (repeat (first | ((with_reducible refine Tr.step rfl ?_); (first | (refine xmQ (z := ?_)) | (refine xaQ (z := ?_)) | (refine xlQ (z := ?_)) | (refine xfQ (z := ?_)) | (refine xiQ (z := ?_)) | ((with_reducible refine Knd.pick ?_); (first | (refine Exec.stab rfl (Stab.pick_td rfl (by (with_reducible assumption)) rfl) rfl ?_) | (refine Exec.stab rfl (Stab.pick_fd rfl (by (with_reducible assumption)) rfl) rfl ?_))) | ((with_reducible refine Knd.box ?_); (refine Exec.box rfl rfl (fun b => ?_))))) | (with_reducible first | apply Tr.next | apply Tr.seq | apply Tr.region | apply Tr.nil) | ((refine Tr.guard_y' rfl rfl rfl (by (with_reducible assumption)) ?_); (first | (refine xlQ (z := ?_)) | (refine xfQ (z := ?_)) | (refine xiQ (z := ?_)))) | (refine Tr.guard_n' rfl rfl rfl (by (with_reducible assumption)) rfl rfl ?_) | (with_reducible first | apply Tr.ret | apply Tr.then_ret) | (refine Tr.cond_bt rfl (by (with_reducible rfl)) ?_)))
    (refine dnQ (hL := by exact ⟨[_], rfl⟩) (k := ⟨rfl, ?_⟩))
    exact ⟨rfl, rfl⟩
  by_cases k5 : a1 > 15
  · rw [decide_eq_false (p := rightM m) (fun h => by have := (hR.1 h).2.2.1; omega)]
    (repeat (first | ((with_reducible refine Tr.step rfl ?_); (first | (refine xmQ (z := ?_)) | (refine xaQ (z := ?_)) | (refine xlQ (z := ?_)) | (refine xfQ (z := ?_)) | (refine xiQ (z := ?_)) | ((with_reducible refine Knd.pick ?_); (refine Exec.stab rfl (Stab.pick_fd rfl (by (with_reducible assumption)) rfl) rfl ?_)) | ((with_reducible refine Knd.box ?_); (refine Exec.box rfl rfl (fun b => ?_))))) | (with_reducible first | apply Tr.next | apply Tr.seq | apply Tr.region | apply Tr.nil) | ((refine Tr.guard_y' rfl rfl rfl (by (with_reducible assumption)) ?_); (first | (refine xlQ (z := ?_)) | (refine xfQ (z := ?_)) | (refine xiQ (z := ?_)))) | (with_reducible first | apply Tr.ret | apply Tr.then_ret) | (refine Tr.cond_t rfl (by (with_reducible assumption)) ?_)))
    (refine dnQ (hL := by exact ⟨[_], rfl⟩) (k := ⟨rfl, ?_⟩))
    exact ⟨rfl, rfl⟩
  (repeat (first | ((with_reducible refine Tr.step rfl ?_); (first | (refine xmQ (z := ?_)) | (refine xaQ (z := ?_)) | (refine xlQ (z := ?_)) | (refine xfQ (z := ?_)) | (refine xiQ (z := ?_)) | ((with_reducible refine Knd.pick ?_); (refine Exec.stab rfl (Stab.pick_fd rfl (by (with_reducible assumption)) rfl) rfl ?_)) | ((with_reducible refine Knd.box ?_); (refine Exec.box rfl rfl (fun b => ?_))))) | (with_reducible first | apply Tr.next | apply Tr.seq | apply Tr.region | apply Tr.nil) | ((refine Tr.guard_y' rfl rfl rfl (by (with_reducible assumption)) ?_); (first | (refine xlQ (z := ?_)) | (refine xfQ (z := ?_)) | (refine xiQ (z := ?_)))) | (with_reducible refine Tr.skip ?_) | (refine Tr.cond_f rfl (by (with_reducible assumption)) ?_)))
  generalize b = b1
  refine Tr.less [(2, .bool false), (1, .pointer (some ⟨b1, 0, none⟩)), (36, .slice A m.labels.length c)] _ (by repeat (first | exact SubFr.nil | refine SubFr.cons rfl ?_)) (by repeat (first | exact DropL.refl | apply DropL.skip)) ?_
  ((refine Tr.step rfl ?_)); refine Exec.call0 rfl (fewl_fn M A m.labels.length c) rfl ?_
  rintro _ _ _ ⟨rfl, rfl⟩
  by_cases c1 : (m.labels.length : Int) ≤ 64
  rotate_left
  · rw [decide_eq_false c1, decide_eq_false (p := rightM m) (fun h => by have := (hR.1 h).2.2.2.1; omega)]
    (repeat (first | ((with_reducible refine Tr.step rfl ?_); (first | (refine xmQ (z := ?_)) | (refine xaQ (z := ?_)) | ((with_reducible refine Knd.pick ?_); (refine Exec.stab rfl (Stab.pick_t rfl (by first | (with_reducible rfl) | (with_reducible exact Bool.not_false)) rfl) rfl ?_)) | ((with_reducible refine Knd.unOp ?_); (refine Exec.stab rfl (Stab.not rfl) rfl ?_)))) | (with_reducible first | apply Tr.next | apply Tr.seq | apply Tr.region | apply Tr.nil) | (refine Tr.guard_s0 rfl rfl rfl (by first | (with_reducible rfl) | (with_reducible exact Bool.not_false)) rfl rfl ?_) | (with_reducible first | apply Tr.ret | apply Tr.then_ret) | (refine Tr.cond_bt rfl (by (with_reducible rfl)) ?_)))
    (refine dnQ (hL := by exact ⟨[_], rfl⟩) (k := ⟨rfl, ?_⟩))
    exact ⟨rfl, rfl⟩
  rw [decide_eq_true c1]
  (repeat (first | ((with_reducible refine Tr.step rfl ?_); (first | (refine xmQ (z := ?_)) | ((with_reducible refine Knd.unOp ?_); (refine Exec.stab rfl (Stab.not rfl) rfl ?_)))) | ((refine Tr.guard_l rfl rfl rfl (by (with_reducible exact Bool.not_true)) ?_); (first | (refine xlQ (z := ?_)) | (refine xfQ (z := ?_))))))
  ((refine Tr.guard_l rfl rfl rfl (by (with_reducible exact Bool.not_true)) ?_)); refine Exec.call0 rfl (fewl_fn M B m.verdicts.length d) rfl ?_
  rintro _ _ _ ⟨rfl, rfl⟩
  by_cases c2 : (m.verdicts.length : Int) ≤ 64
  rotate_left
  · rw [decide_eq_false c2, decide_eq_false (p := rightM m) (fun h => by have := (hR.1 h).2.2.2.2.1; omega)]
    (repeat (first | ((with_reducible refine Tr.step rfl ?_); (first | (refine xmQ (z := ?_)) | (refine xaQ (z := ?_)) | ((with_reducible refine Knd.pick ?_); (first | (refine Exec.stab rfl (Stab.pick_t rfl (by (with_reducible exact Bool.not_false)) rfl) rfl ?_) | (refine Exec.stab rfl (Stab.pick_f rfl (by (with_reducible exact Bool.not_true)) rfl) rfl ?_))))) | (with_reducible first | apply Tr.next | apply Tr.seq | apply Tr.region | apply Tr.nil) | ((refine Tr.guard_l rfl rfl rfl (by first | (with_reducible rfl) | (with_reducible exact Bool.not_true)) ?_); (with_reducible refine Knd.unOp ?_); (refine Exec.stab rfl (Stab.not rfl) rfl ?_)) | (refine Tr.guard_s0 rfl rfl rfl (by first | (with_reducible rfl) | (with_reducible exact Bool.not_false)) rfl rfl ?_) | (with_reducible first | apply Tr.ret | apply Tr.then_ret) | (refine Tr.cond_bt rfl (by (with_reducible rfl)) ?_)))
    (refine dnQ (hL := by exact ⟨[_], rfl⟩) (k := ⟨rfl, ?_⟩))
    exact ⟨rfl, rfl⟩
  rw [decide_eq_true c2]
  by_cases c3 : (m.rels.length : Int) > 64
  · rw [decide_eq_false (p := rightM m) (fun h => by have := (hR.1 h).2.2.2.2.2.1; omega)]
    (repeat (first | ((with_reducible refine Tr.step rfl ?_); (first | (refine xmQ (z := ?_)) | (refine xaQ (z := ?_)) | ((with_reducible refine Knd.pick ?_); (refine Exec.stab rfl (Stab.pick_f rfl (by (with_reducible exact Bool.not_true)) rfl) rfl ?_)))) | (with_reducible first | apply Tr.next | apply Tr.seq | apply Tr.region | apply Tr.nil) | ((refine Tr.guard_l rfl rfl rfl (by first | (with_reducible rfl) | (with_reducible exact Bool.not_true)) ?_); (first | (refine xlQ (z := ?_)) | (refine xfQ (z := ?_)) | (refine xnQ (z := ?_)) | (refine xiQ (z := ?_)) | ((with_reducible refine Knd.unOp ?_); (refine Exec.stab rfl (Stab.not rfl) rfl ?_)))) | (with_reducible first | apply Tr.ret | apply Tr.then_ret) | (refine Tr.cond_t rfl (by (with_reducible assumption)) ?_)))
    (refine dnQ (hL := by exact ⟨[_], rfl⟩) (k := ⟨rfl, ?_⟩))
    exact ⟨rfl, rfl⟩
  (repeat (first | ((with_reducible refine Tr.step rfl ?_); (first | (refine xmQ (z := ?_)) | (refine xlQ (z := ?_)) | (refine xfQ (z := ?_)) | (refine xnQ (z := ?_)) | ((with_reducible refine Knd.pick ?_); (refine Exec.stab rfl (Stab.pick_f rfl (by (with_reducible exact Bool.not_true)) rfl) rfl ?_)))) | (with_reducible first | apply Tr.next | apply Tr.seq | apply Tr.region | apply Tr.nil) | ((refine Tr.guard_l rfl rfl rfl (by first | (with_reducible rfl) | (with_reducible exact Bool.not_true)) ?_); (first | (refine xlQ (z := ?_)) | (refine xfQ (z := ?_)) | (refine xnQ (z := ?_)) | (refine xiQ (z := ?_)) | ((with_reducible refine Knd.unOp ?_); (refine Exec.stab rfl (Stab.not rfl) rfl ?_)))) | (with_reducible first | apply Tr.skip | apply Tr.block) | (refine Tr.cond_f rfl (by (with_reducible assumption)) ?_)))
  have hR2 : rightM m ↔ ∀ r ∈ m.rels, rightR r := ⟨fun h => (hR.1 h).2.2.2.2.2.2, fun h => hR.2 ⟨by omega, by omega, by omega, by omega, by omega, by omega, h⟩⟩
  clear hR
  refine Tr.loop (α := Nat) (fun i => ⟨83, [(54, .int .i64 (i : Int)), (53, .int .i64 m.rels.length), (52, .slice C m.rels.length e), (2, .bool false), (1, .pointer (some ⟨b1, 0, none⟩))], [], M, [] ++ F⟩) (fun i => i ≤ m.rels.length ∧ ∀ r ∈ m.rels.take i, rightR r) (fun i => m.rels.length - i) 0 ⟨by simp, by simp⟩ hsQ (fun i hi => ?_)
  obtain ⟨hi, hall⟩ := hi
  by_cases hlt : i < m.rels.length
  rotate_left
  · rw [List.take_of_length_le (by omega)] at hall
    rw [decide_eq_true (hR2.2 hall)]
    (repeat (first | ((with_reducible refine Tr.step rfl ?_); (first | (refine xaQ (z := ?_)) | (refine xiQ (z := ?_)))) | (with_reducible first | apply Tr.next | apply Tr.seq | apply Tr.region | apply Tr.nil | apply Tr.exit | apply Tr.ret | apply Tr.then_exit) | ((with_reducible refine Tr.in_exit ?_ ?_); (exact rfl)) | (refine Tr.cond_f rfl (by first | (with_reducible assumption) | omega) ?_)))
    (refine dnQ (hL := by exact ⟨[], rfl⟩) (k := ⟨rfl, ?_⟩))
    exact ⟨rfl, rfl⟩
  obtain ⟨x, hx⟩ := get_of_lt hlt
  have hxm := List.mem_of_getElem? hx
  obtain ⟨hA, ch, hat, A1, k1, A2, k2, rfl, hr1, hr2⟩ := p3.elem hx
  have l4 := hr2.len_le
  have l5 := hr1.len_le
  (repeat (first | ((with_reducible refine Tr.step rfl ?_); (first | ((with_reducible refine Knd.load ?_); (first | (refine xlQ (z := ?_)) | (refine Exec.stab rfl (Stab.loadMA rfl (tysOk.get rfl) rfl (by assumption) (by first | rfl | assumption)) rfl ?_))) | (refine xfQ (z := ?_)) | (refine xiQ (z := ?_)) | (refine xWQ (z := ?_)) | ((with_reducible refine Knd.alloc ?_); (refine Exec.alloc (tysOk.get rfl) rfl rfl (fun b => ?_))) | (refine xxQ (z := ?_)))) | (with_reducible first | apply Tr.next | apply Tr.seq | apply Tr.region | apply Tr.nil | apply Tr.skip | apply Tr.block) | (refine Tr.cond_t rfl (by first | (with_reducible assumption) | omega) ?_)))
  generalize b = b4
  ((refine Tr.step rfl ?_)); refine Exec.call0 rfl (fewl_fn M A1 x.out.length k1) rfl ?_
  rintro _ _ _ ⟨rfl, rfl⟩
  by_cases d1 : (x.out.length : Int) ≤ 64
  rotate_left
  · rw [decide_eq_false d1, decide_eq_false (p := rightM m) (fun h => by have := (hR2.1 h x hxm).1; omega)]
    (repeat (first | ((with_reducible refine Tr.step rfl ?_); (first | (refine xmQ (z := ?_)) | (refine xaQ (z := ?_)) | ((with_reducible refine Knd.pick ?_); (refine Exec.stab rfl (Stab.pick_t rfl (by (with_reducible exact Bool.not_false)) rfl) rfl ?_)) | ((with_reducible refine Knd.unOp ?_); (refine Exec.stab rfl (Stab.not rfl) rfl ?_)))) | (with_reducible first | apply Tr.next | apply Tr.seq | apply Tr.region | apply Tr.nil) | (refine Tr.guard_s0 rfl rfl rfl (by first | (with_reducible rfl) | (with_reducible exact Bool.not_false)) rfl rfl ?_) | (with_reducible first | apply Tr.ret | apply Tr.then_ret | apply Tr.in_ret) | (refine Tr.cond_bt rfl (by (with_reducible rfl)) ?_)))
    (refine dnQ (hL := by exact ⟨[_], rfl⟩) (k := ⟨rfl, ?_⟩))
    exact ⟨rfl, rfl⟩
  rw [decide_eq_true d1]
  by_cases d2 : (x.inn.length : Int) ≠ (x.out.length : Int)
  · rw [decide_eq_false (p := rightM m) (fun h => by have := (hR2.1 h x hxm).2.1; omega)]
    (repeat (first | ((with_reducible refine Tr.step rfl ?_); (first | (refine xmQ (z := ?_)) | (refine xaQ (z := ?_)) | ((with_reducible refine Knd.pick ?_); (refine Exec.stab rfl (Stab.pick_f rfl (by (with_reducible exact Bool.not_true)) rfl) rfl ?_)) | ((with_reducible refine Knd.unOp ?_); (refine Exec.stab rfl (Stab.not rfl) rfl ?_)))) | (with_reducible first | apply Tr.next | apply Tr.seq | apply Tr.region | apply Tr.nil) | ((refine Tr.guard_l rfl rfl rfl (by first | (with_reducible rfl) | (with_reducible exact Bool.not_true)) ?_); (first | (refine xlQ (z := ?_)) | (refine xfQ (z := ?_)) | (refine xnQ (z := ?_)) | (refine xiQ (z := ?_)))) | (with_reducible first | apply Tr.ret | apply Tr.then_ret | apply Tr.in_ret) | (refine Tr.cond_t rfl (by (with_reducible assumption)) ?_)))
    (refine dnQ (hL := by exact ⟨[_], rfl⟩) (k := ⟨rfl, ?_⟩))
    exact ⟨rfl, rfl⟩
  (repeat (first | ((with_reducible refine Tr.step rfl ?_); (first | (refine xmQ (z := ?_)) | (refine xlQ (z := ?_)) | (refine xfQ (z := ?_)) | (refine xnQ (z := ?_)) | ((with_reducible refine Knd.pick ?_); (refine Exec.stab rfl (Stab.pick_f rfl (by (with_reducible exact Bool.not_true)) rfl) rfl ?_)) | ((with_reducible refine Knd.unOp ?_); (refine Exec.stab rfl (Stab.not rfl) rfl ?_)))) | (with_reducible first | apply Tr.next | apply Tr.seq | apply Tr.region | apply Tr.nil) | ((refine Tr.guard_l rfl rfl rfl (by first | (with_reducible rfl) | (with_reducible exact Bool.not_true)) ?_); (first | (refine xlQ (z := ?_)) | (refine xfQ (z := ?_)) | (refine xnQ (z := ?_)) | (refine xiQ (z := ?_)))) | (with_reducible first | apply Tr.skip | apply Tr.block) | (refine Tr.cond_f rfl (by (with_reducible assumption)) ?_)))
  refine Tr.loop (α := Nat) (fun k => ⟨83, [(74, .int .i64 (k : Int)), (73, .int .i64 x.inn.length), (72, .slice A2 x.inn.length k2), (54, .int .i64 (i : Int)), (53, .int .i64 m.rels.length), (52, .slice C m.rels.length e), (2, .bool false), (1, .pointer (some ⟨b1, 0, none⟩))], [], M, [] ++ F⟩) (fun k => k ≤ x.inn.length ∧ ∀ l ∈ x.inn.take k, l.length ≤ 64) (fun k => x.inn.length - k) 0 ⟨by simp, by simp⟩ hsQ (fun k hk => ?_)
  obtain ⟨hk, hkall⟩ := hk
  by_cases hlt2 : k < x.inn.length
  rotate_left
  · rw [List.take_of_length_le (by omega)] at hkall
    (repeat (first | ((with_reducible refine Tr.step rfl ?_); (first | (refine xmQ (z := ?_)) | ((with_reducible refine Knd.binOp ?_); (first | (refine xdQ (z := ?_)) | (refine xiQ (z := ?_)))))) | (with_reducible first | apply Tr.next | apply Tr.seq | apply Tr.region | apply Tr.nil | apply Tr.exit | apply Tr.then_exit | apply Tr.in_normal) | ((with_reducible refine Tr.in_exit ?_ ?_); (exact rfl)) | (refine Tr.cond_f rfl (by first | (with_reducible assumption) | omega) ?_)))
    refine Tr.again (i + 1) ⟨by omega, all_take hx hall ⟨by omega, by omega, hkall⟩⟩ (by omega) hsQ
  obtain ⟨z, hz⟩ := get_of_lt hlt2
  have hzm := List.mem_of_getElem? hz
  obtain ⟨hB, ch2, hbt, A3, k3, rfl, hi3⟩ := hr2.elem hz
  (repeat (first | ((with_reducible refine Tr.step rfl ?_); (first | (refine xmQ (z := ?_)) | (refine xaQ (z := ?_)) | (refine xMQ (z := ?_)) | (refine xiQ (z := ?_)) | (refine xxQ (z := ?_)))) | (with_reducible first | apply Tr.next | apply Tr.seq | apply Tr.region | apply Tr.nil | apply Tr.skip | apply Tr.block) | (refine Tr.cond_t rfl (by first | (with_reducible assumption) | omega) ?_)))
  ((refine Tr.step rfl ?_)); refine Exec.call0 rfl (fewl_fn M A3 z.length k3) rfl ?_
  rintro _ _ _ ⟨rfl, rfl⟩
  by_cases f1 : (z.length : Int) ≤ 64
  · rw [decide_eq_true f1]
    (repeat (first | ((with_reducible refine Tr.step rfl ?_); (first | (refine xmQ (z := ?_)) | (refine xdQ (z := ?_)) | ((with_reducible refine Knd.unOp ?_); (refine Exec.stab rfl (Stab.not rfl) rfl ?_)))) | (with_reducible first | apply Tr.next | apply Tr.region | apply Tr.nil | apply Tr.skip | apply Tr.in_normal) | (refine Tr.cond_bf rfl (by first | (with_reducible rfl) | (with_reducible exact Bool.not_true)) ?_)))
    refine Tr.again (k + 1) ⟨by omega, all_take hz hkall (by omega)⟩ (by omega) hsQ
  · rw [decide_eq_false f1, decide_eq_false (p := rightM m) (fun h => by have := (hR2.1 h x hxm).2.2 z hzm; omega)]
    (repeat (first | ((with_reducible refine Tr.step rfl ?_); (first | (refine xaQ (z := ?_)) | ((with_reducible refine Knd.unOp ?_); (refine Exec.stab rfl (Stab.not rfl) rfl ?_)))) | (with_reducible first | apply Tr.next | apply Tr.seq | apply Tr.region | apply Tr.nil | apply Tr.ret | apply Tr.then_ret | apply Tr.in_ret) | (refine Tr.cond_bt rfl (by first | (with_reducible rfl) | (with_reducible exact Bool.not_false)) ?_)))
    (refine dnQ (hL := by exact ⟨[], rfl⟩) (k := ⟨rfl, ?_⟩))
    exact ⟨rfl, rfl⟩
end Go.Proofs.YtghjhdbmkilakaaGreatDoor

/-
  Frames: the contract of Pack.
  Conditions: none.
-/
namespace Go.Proofs.YtghjhdbmkilakaaGreatDoor
open Go Bf
attribute [local irreducible] Tr Exec Stab HasTy Go.Addr.add IntKind.wrap
set_option maxHeartbeats 4000000 in
theorem pack_fn (M : Mem) (hK : Tab M) (m : Msg) (u : List Value) (hp : RMsg M u m) :
    Fn0 Tryz.prog 6 [.agg u.toArray] M (fun r M' => RBE M' r (packF TF m)) := by
  have hp0 := hp
  obtain ⟨⟨a0, a1, a2, a3, a4, a5, a6, A, c, B, d, C, e, pe, rfl, p1, p2, p3⟩, pw, pk⟩ := hp
  have psl2 : (byteV m.sl).length = 32 := by simpa using pw.1
  have hcl : (Value.int .i64 m.kind :: .int .i64 a0 :: .int .i64 a1 :: .int .i64 a2 :: .int .i64 a3 :: .int .i64 a4 :: .int .i64 a5 :: .int .i64 a6 :: .slice A m.labels.length c :: .slice B m.verdicts.length d :: .slice C m.rels.length e :: byteV m.sl).length = 43 := by simp only [List.length_cons, psl2]
  refine Fn.intro Tryz.func6 rfl rfl Tryz.ntmps6 rfl fun E F => ?_
  (repeat (first | ((with_reducible refine Tr.step rfl ?_); (first | (refine xaQ (z := ?_)) | ((with_reducible refine Knd.load ?_); (refine Exec.stab rfl (Stab.loadW rfl (tysOk.get rfl) rfl (by repeat (first | exact Has.here | apply Has.there)) (by assumption)) rfl ?_)) | ((with_reducible refine Knd.box ?_); (refine Exec.box rfl rfl (fun b => ?_))))) | (with_reducible first | apply Tr.next | apply Tr.seq | apply Tr.region | apply Tr.nil)))
  generalize b = b1
  ((refine Tr.step rfl ?_)); refine Exec.call0 rfl (right_fn M m _ hp0) rfl ?_
  rintro _ _ _ ⟨rfl, rfl⟩
  by_cases hr : rightM m
  rotate_left
  · rw [decide_eq_false hr, packF, if_neg (fun h => hr h.1)]
    (repeat (first | ((with_reducible refine Tr.step rfl ?_); (first | (refine xaQ (z := ?_)) | ((with_reducible refine Knd.unOp ?_); (refine Exec.stab rfl (Stab.not rfl) rfl ?_)))) | (with_reducible first | apply Tr.next | apply Tr.seq | apply Tr.region | apply Tr.nil | apply Tr.ret | apply Tr.then_ret) | (refine Tr.cond_bt rfl (by first | (with_reducible rfl) | (with_reducible assumption) | (with_reducible exact Bool.not_true) | (with_reducible exact Bool.not_false)) ?_)))
    (refine dnQ (hL := by exact ⟨[_], rfl⟩) (k := ⟨rfl, ?_⟩))
    exact ⟨none, 0, rfl, BSl.nil _⟩
  rw [decide_eq_true hr]
  have hl := enc_msg_le hr pw
  have hd := depth_msg m
  have hc0 := chk_msg m
  have hef : encF (msgV m) = enc (msgV m) := by unfold encF; rw [if_pos hc0]
  (repeat (first | ((with_reducible refine Tr.step rfl ?_); (first | ((with_reducible refine Knd.load ?_); (refine Exec.stab rfl (Stab.loadW rfl (tysOk.get rfl) rfl (by repeat (first | exact Has.here | apply Has.there)) (by assumption)) rfl ?_)) | ((with_reducible refine Knd.unOp ?_); (refine Exec.stab rfl (Stab.not rfl) rfl ?_)))) | (with_reducible first | apply Tr.next | apply Tr.seq | apply Tr.region | apply Tr.nil | apply Tr.skip) | (refine Tr.cond_bf rfl (by first | (with_reducible rfl) | (with_reducible assumption) | (with_reducible exact Bool.not_true) | (with_reducible exact Bool.not_false)) ?_)))
  ((refine Tr.step rfl ?_)); refine Exec.call0 rfl (value_msg M m _ hp0 hr) rfl ?_
  intro r1 M1 hm1 hV
  (skip)
  ((refine Tr.step rfl ?_)); refine Exec.call0 rfl (encode_fn M1 (msgV m) r1 hV (by omega) (by omega)) rfl ?_
  rintro _ M2 hm2 ⟨A2, k2, rfl, hB⟩
  rw [hc0, hef]
  rw [hef] at hB
  have hm02 := hm1.trans hm2
  by_cases c1 : ((enc (msgV m)).length : Int) > 65536
  · rw [packF, if_neg (fun h => by omega)]
    (repeat (first | ((with_reducible refine Tr.step rfl ?_); (first | (refine xmQ (z := ?_)) | (refine xaQ (z := ?_)) | (refine xiQ (z := ?_)) | ((with_reducible refine Knd.pick ?_); (refine Exec.stab rfl (Stab.pick_fd rfl (by first | (with_reducible assumption) | (with_reducible rfl) | (with_reducible exact (not_not_intro rfl)) | omega) rfl) rfl ?_)) | ((with_reducible refine Knd.extract ?_); (refine Exec.stab rfl (Stab.extract rfl rfl) rfl ?_)))) | (with_reducible first | apply Tr.next | apply Tr.seq | apply Tr.region | apply Tr.nil) | ((refine Tr.guard_y' rfl rfl rfl (by first | (with_reducible assumption) | (with_reducible rfl) | (with_reducible exact (not_not_intro rfl)) | omega) ?_); (first | (refine xmQ (z := ?_)) | (refine xnQ (z := ?_)) | (refine xiQ (z := ?_)))) | (with_reducible first | apply Tr.ret | apply Tr.then_ret) | (refine Tr.cond_t rfl (by first | (with_reducible assumption) | (with_reducible rfl) | (with_reducible exact (not_not_intro rfl)) | omega) ?_)))
    (refine dnQ (hL := by exact ⟨[_], rfl⟩) (k := ⟨rfl, ?_⟩))
    exact ⟨none, 0, rfl, BSl.nil _⟩
  have hpk : packF TF m = encFr ⟨m.kind, enc (msgV m)⟩ := by
    have hk := hr.1
    rw [packF, if_pos ⟨hr, by omega⟩, encFr, if_pos ⟨⟨by show (0 : Int) ≤ m.kind; omega, by show m.kind ≤ 255; omega⟩, by show (enc (msgV m)).length ≤ 65536; omega⟩]
  rw [hpk]
  (repeat (first | ((with_reducible refine Tr.step rfl ?_); (first | (refine xmQ (z := ?_)) | (refine xaQ (z := ?_)) | (refine xlQ (z := ?_)) | (refine xfQ (z := ?_)) | (refine xiQ (z := ?_)) | ((with_reducible refine Knd.pick ?_); (refine Exec.stab rfl (Stab.pick_fd rfl (by first | (with_reducible assumption) | (with_reducible rfl) | (with_reducible exact (not_not_intro rfl)) | omega) rfl) rfl ?_)) | ((with_reducible refine Knd.extract ?_); (refine Exec.stab rfl (Stab.extract rfl rfl) rfl ?_)) | ((with_reducible refine Knd.build ?_); (refine Exec.stab rfl (Stab.build tysOk rfl rfl rfl rfl (by repeat (first | exact BuildP.nil | ((apply BuildP.one); (rfl); (rfl); (first | rfl | assumption); (repeat (first | exact SetL.z | apply SetL.s))) | ((apply BuildP.many); (rfl); (rfl); (rfl); (rfl); (repeat (first | exact PutL.nil | ((apply PutL.cons); (repeat (first | exact SetL.z | apply SetL.s))))))))) rfl ?_)))) | (with_reducible first | apply Tr.next | apply Tr.seq | apply Tr.region | apply Tr.nil) | ((refine Tr.guard_y' rfl rfl rfl (by first | (with_reducible assumption) | (with_reducible rfl) | (with_reducible exact (not_not_intro rfl)) | omega) ?_); (first | (refine xmQ (z := ?_)) | (refine xnQ (z := ?_)) | (refine xiQ (z := ?_)))) | (with_reducible refine Tr.skip ?_) | (refine Tr.cond_f rfl (by first | (with_reducible assumption) | (with_reducible rfl) | (with_reducible exact (not_not_intro rfl)) | omega) ?_)))
  ((refine Tr.step rfl ?_)); refine Exec.call0 rfl (encode_fr M2 (hK.mono hm02) A2 k2 ⟨m.kind, enc (msgV m)⟩ hB) rfl ?_
  rintro _ M3 hm3 ⟨A3, k3, rfl, hB3⟩
  have hm03 := hm02.trans hm3
  (repeat (first | ((with_reducible refine Tr.step rfl ?_); (first | (refine xaQ (z := ?_)) | ((with_reducible refine Knd.extract ?_); (refine Exec.stab rfl (Stab.extract rfl rfl) rfl ?_)))) | (with_reducible first | apply Tr.next | apply Tr.nil | apply Tr.ret)))
  (refine dnQ (hL := by exact ⟨[_], rfl⟩) (k := ⟨rfl, ?_⟩))
  exact ⟨A3, k3, rfl, hB3⟩
end Go.Proofs.YtghjhdbmkilakaaGreatDoor

/-
  Frames: the reader of values: next, number, list, end and seal.
  Conditions: none.
-/
namespace Go.Proofs.YtghjhdbmkilakaaGreatDoor
open Go Bf
attribute [local irreducible] Tr Exec Stab HasTy Go.Addr.add IntKind.wrap
def errCh : List PanicEntry := [{ v := .iface 31 (.int .i64 470), recovered := false }]
def Fl (ch : List PanicEntry) (A' : List Res) : Prop := ch = errCh ∧ A' = []
/-- few values, and short ones -/
def SmallL (l : List Val) : Prop := l.length ≤ 1000000 ∧ ∀ v ∈ l, formed v = true ∧ (enc v).length ≤ 1000000
theorem SmallL.tail {v : Val} {l : List Val} (h : SmallL (v :: l)) : SmallL l := ⟨by have := h.1; simp at this; omega, fun x hx => h.2 x (List.mem_cons_of_mem _ hx)⟩
theorem small_sub {v : Val} (hf : formed v = true) (hl : (enc v).length ≤ 1000000) (hk : v.k = 3) : SmallL v.l := by
  obtain ⟨-, h2⟩ := three hf hk
  have h3 := encL_len h2
  have h4 := enc3 hk
  rw [h4, List.length_cons, List.length_append] at hl
  refine ⟨by omega, fun x hx => ⟨h2 x hx, ?_⟩⟩
  have h5 := enc_mem3 hk hx
  rw [h4, List.length_cons, List.length_append] at h5
  omega
/-- a reader, and the values that remain -/
def RdrV (M : Mem) (p : Nat) (l : List Val) (x : Res) : Prop := ∃ A c, x = box p 101 [.slice A l.length c] ∧ RVals M (.slice A l.length c) l ∧ SmallL l
theorem RdrV.mono {M M' : Mem} {p : Nat} {l : List Val} {x : Res} (h : RdrV M p l x) (hm : Mem.le M M') : RdrV M' p l x := let ⟨A, c, h1, h2, h3⟩ := h; ⟨A, c, h1, h2.mono RVal.mono' hm, h3⟩
theorem RdrV.small {M : Mem} {p : Nat} {l : List Val} {x : Res} (h : RdrV M p l x) : SmallL l := let ⟨_, _, _, _, h3⟩ := h; h3
theorem slV_tail {M : Mem} {A : Option Addr} {c : Nat} {v : Val} {l : List Val} (h : RVals M (.slice A (v :: l).length c) (v :: l)) : RVals M (.slice (if c = 1 then A else A.map (·.add (1 * 4))) l.length (c - 1)) l := by
  have hc : (v :: l).length ≤ c := by obtain ⟨_, _, _, e, h1, _⟩ := h; cases e; exact h1
  have := SlOf.sub (l := 1) (k := (v :: l).length) (m := c) h (by simp) (Nat.le_refl _) hc (Nat.le_refl _)
  simpa using this
set_option maxHeartbeats 2000000 in
theorem next_fr (M : Mem) (p : Nat) (l : List Val) (x : Res) (kind : Int) (h : RdrV M p l x) :
    FnP Tryz.prog 99 [.pointer (some ⟨p, 0, none⟩), .int .i64 kind] M [x]
      (fun r M' A' => M = M' ∧ ∃ v l', l = v :: l' ∧ v.k = kind ∧ RV M r v ∧ ∃ x', A' = [x'] ∧ RdrV M p l' x')
      (fun ch M' A' => Fl ch A' ∧ ∀ v l', l = v :: l' → v.k ≠ kind) := by
  obtain ⟨A, c, rfl, hl, hsm⟩ := h
  have hlen := hl.len_le
  refine FnP.intro Tryz.func99 rfl rfl Tryz.ntmps99 rfl fun E F => ?_
  cases l with
  | nil =>
    have h0 : ((([] : List Val).length : Nat) : Int) = 0 := rfl
    (repeat (first | ((with_reducible refine Tr.step rfl ?_); (first | (refine xmQ (z := ?_)) | (refine xlQ (z := ?_)) | (refine xfQ (z := ?_)) | (refine xnQ (z := ?_)) | ((with_reducible refine Knd.nilCheck ?_); (refine Exec.stab rfl (Stab.nilCheck rfl) rfl ?_)) | ((with_reducible refine Knd.makeInterface ?_); (refine Exec.stab rfl (Stab.makeIface rfl (by kernel_rfl)) rfl ?_)) | ((with_reducible refine Knd.panic ?_); (refine Exec.panic rfl ?_)) | (refine xiQ (z := ?_)) | ((with_reducible refine Knd.pick ?_); (refine Exec.stab rfl (Stab.pick_td rfl (by (with_reducible assumption)) rfl) rfl ?_)) | ((with_reducible refine Knd.alloc ?_); (refine Exec.alloc (tysOk.get rfl) rfl rfl (fun b => ?_))))) | (with_reducible first | apply Tr.next | apply Tr.seq | apply Tr.region | apply Tr.nil) | (refine Tr.guard_n' rfl rfl rfl (by (with_reducible assumption)) rfl rfl ?_) | (with_reducible refine Tr.then_panic ?_) | (refine Tr.cond_bt rfl (by (with_reducible rfl)) ?_)))
    refine Tr.doneP (A' := []) (Mem.le.refl _) (by repeat (first | exact DropL.refl | apply DropL.skip)) ⟨⟨rfl, rfl⟩, fun v l' h => by cases h⟩
  | cons v l =>
    have hv : (v :: l)[0]? = some v := rfl
    obtain ⟨hA, ch, hat, hRv⟩ := hl.elem hv
    have hRv0 := hRv
    obtain ⟨A1, k1, rfl, -⟩ := hRv0.open_
    have hat0 : At M (((A.getD default).add (0 * 4)).add 0) [.int .i64 v.k, .int .i64 v.n, .string ⟨v.s.toArray⟩, .slice A1 v.l.length k1] := hat.drop 0
    have htl := slV_tail hl
    have hn0 : ¬ ((v :: l).length : Int) = 0 := by simp only [List.length_cons]; omega
    have hpos : (0 : Int) < ((v :: l).length : Int) := by simp only [List.length_cons]; omega
    by_cases hk : v.k ≠ kind
    · (repeat (first | ((with_reducible refine Tr.step rfl ?_); (first | (refine xmQ (z := ?_)) | (refine xlQ (z := ?_)) | (refine xfQ (z := ?_)) | (refine xnQ (z := ?_)) | ((with_reducible refine Knd.nilCheck ?_); (refine Exec.stab rfl (Stab.nilCheck rfl) rfl ?_)) | ((with_reducible refine Knd.makeInterface ?_); (refine Exec.stab rfl (Stab.makeIface rfl (by kernel_rfl)) rfl ?_)) | ((with_reducible refine Knd.panic ?_); (refine Exec.panic rfl ?_)) | (refine xiQ (z := ?_)) | ((with_reducible refine Knd.pick ?_); (refine Exec.stab rfl (Stab.pick_fd rfl (by (with_reducible assumption)) rfl) rfl ?_)) | ((with_reducible refine Knd.alloc ?_); (refine Exec.alloc (tysOk.get rfl) rfl rfl (fun b => ?_))))) | (with_reducible first | apply Tr.next | apply Tr.seq | apply Tr.region | apply Tr.nil) | ((refine Tr.guard_y' rfl rfl rfl (by (with_reducible assumption)) ?_); (first | (refine xmQ (z := ?_)) | ((with_reducible refine Knd.load ?_); (first | (refine xlQ (z := ?_)) | (refine xMQ (z := ?_)))) | ((with_reducible refine Knd.fieldAddr ?_); (first | (refine xfQ (z := ?_)) | (refine Exec.stab rfl (Stab.fieldD rfl (tysOk.get rfl) rfl rfl (tysOk.get rfl) rfl) rfl ?_))) | ((with_reducible refine Knd.nilCheck ?_); (refine Exec.stab rfl (Stab.nilCheck rfl) rfl ?_)) | (refine xiQ (z := ?_)) | (refine xxQ (z := ?_)))) | (with_reducible refine Tr.then_panic ?_) | (refine Tr.cond_t rfl (by (with_reducible assumption)) ?_)))
      refine Tr.doneP (A' := []) (Mem.le.refl _) (by repeat (first | exact DropL.refl | apply DropL.skip)) ⟨⟨rfl, rfl⟩, fun w l' h => by cases h; exact hk⟩
    have hke : v.k = kind := by omega
    have hone : (1 : Int) ≤ ((v :: l).length : Int) := by simp only [List.length_cons]; omega
    (repeat (first | ((with_reducible refine Tr.step rfl ?_); (first | (refine xmQ (z := ?_)) | ((with_reducible refine Knd.load ?_); (first | (refine xlQ (z := ?_)) | (refine xwQ (z := ?_)) | (refine Exec.stab rfl (Stab.loadMA rfl (tysOk.get rfl) rfl (by assumption) (by first | rfl | assumption)) rfl ?_))) | (refine xfQ (z := ?_)) | (refine xnQ (z := ?_)) | ((with_reducible refine Knd.nilCheck ?_); (refine Exec.stab rfl (Stab.nilCheck rfl) rfl ?_)) | (refine xiQ (z := ?_)) | ((with_reducible refine Knd.pick ?_); (refine Exec.stab rfl (Stab.pick_fd rfl (by (with_reducible assumption)) rfl) rfl ?_)) | ((with_reducible refine Knd.store ?_); (first | (refine xSQ (z := ?_)) | (refine xWQ (z := ?_)))) | ((with_reducible refine Knd.alloc ?_); (refine Exec.alloc (tysOk.get rfl) rfl rfl (fun b => ?_))) | (refine xxQ (z := ?_)) | ((with_reducible refine Knd.slice ?_); (refine Exec.stab rfl (Stab.slice_l rfl rfl (tysOk.get rfl) rfl (tysOk.get rfl) rfl (by omega) (by omega)) rfl ?_)))) | (with_reducible first | apply Tr.next | apply Tr.seq | apply Tr.region | apply Tr.nil) | ((refine Tr.guard_y' rfl rfl rfl (by (with_reducible assumption)) ?_); (first | (refine xmQ (z := ?_)) | ((with_reducible refine Knd.load ?_); (first | (refine xlQ (z := ?_)) | (refine xMQ (z := ?_)))) | ((with_reducible refine Knd.fieldAddr ?_); (first | (refine xfQ (z := ?_)) | (refine Exec.stab rfl (Stab.fieldD rfl (tysOk.get rfl) rfl rfl (tysOk.get rfl) rfl) rfl ?_))) | ((with_reducible refine Knd.nilCheck ?_); (refine Exec.stab rfl (Stab.nilCheck rfl) rfl ?_)) | (refine xiQ (z := ?_)) | (refine xxQ (z := ?_)))) | (with_reducible first | apply Tr.skip | apply Tr.ret) | (refine Tr.cond_f rfl (by (with_reducible assumption)) ?_)))
    refine Tr.ofPost ?_
    refine Tr.doneB (A' := [box p 101 _]) [box _ 53 _, box _ 53 _] (by first | exact .inl rfl | exact .inr rfl) rfl (by repeat (first | exact RVs.nil | (apply RVs.cons; (exact RV.cellW (by rfl) (tysOk.get (by rfl)) (by rfl) (by repeat (first | exact Has.here | apply Has.there)) (by first | rfl | assumption))))) (Mem.le.refl _) (List.Perm.refl _) ⟨rfl, v, l, rfl, hke, ⟨_, rfl, hRv⟩, _, rfl, _, _, rfl, htl, hsm.tail⟩
/-- what a method reads -/
def Rd {α : Type} (f : FuncId) (g : Val → Option α) (R : Mem → Value → α → Prop) : Prop := ∀ (M : Mem) (p : Nat) (l : List Val) (x : Res), RdrV M p l x →
  FnP Tryz.prog f [.pointer (some ⟨p, 0, none⟩)] M [x]
    (fun r M' A' => Mem.le M M' ∧ ∃ v l' a, l = v :: l' ∧ g v = some a ∧ R M' r a ∧ ∃ x', A' = [x'] ∧ RdrV M' p l' x')
    (fun ch M' A' => Fl ch A' ∧ ∀ v l', l = v :: l' → g v = none)
set_option maxHeartbeats 1000000 in
theorem number_rd : Rd 58 nO (fun _ r n => r = .int .i64 n) := by
  intro M p l x h
  refine FnP.intro Tryz.func58 rfl rfl Tryz.ntmps58 rfl fun E F => ?_
  (repeat (first | ((with_reducible refine Tr.step rfl ?_); (first | (refine xmQ (z := ?_)) | (refine xaQ (z := ?_)))) | (with_reducible first | apply Tr.next | apply Tr.seq | apply Tr.region | apply Tr.nil)))
  ((refine Tr.step rfl ?_))
  refine Exec.callP rfl (next_fr M p l x 1 h) (List.Perm.refl _) rfl (fun r M' A' hm hR => ?_) (fun ch M' A' hm hR => ?_)
  rotate_left
  · obtain ⟨⟨rfl, rfl⟩, hno⟩ := hR
    (repeat ((with_reducible refine Tr.then_panic ?_)))
    refine Tr.doneP (A' := []) hm (by repeat (first | exact DropL.refl | apply DropL.skip)) ⟨⟨rfl, rfl⟩, fun v l' e => by rw [nO, if_neg (hno v l' e)]⟩
  obtain ⟨rfl, v, l', rfl, hk, hV, x', rfl, hx'⟩ := hR
  obtain ⟨A1, k1, rfl, -⟩ := hV.open_
  (repeat (first | ((with_reducible refine Tr.step rfl ?_); (first | (refine xaQ (z := ?_)) | ((with_reducible refine Knd.field ?_); (refine Exec.stab rfl (Stab.field rfl (tysOk.get rfl) rfl rfl (tysOk.get rfl) rfl rfl) rfl ?_)))) | (with_reducible first | apply Tr.next | apply Tr.nil | apply Tr.ret)))
  refine Tr.ofPost ?_
  refine Tr.doneA (A' := [x']) (by first | exact .inl rfl | exact .inr rfl) rfl (by repeat (first | exact RVs.nil | (apply RVs.cons; (exact RV.tmp rfl)))) hm ⟨fun _ h => h, fun h => h⟩ ⟨hm, v, l', v.n, rfl, by rw [nO, if_pos hk], rfl, x', rfl, hx'⟩
set_option maxHeartbeats 1000000 in
theorem list_rd (M : Mem) (p : Nat) (l : List Val) (x : Res) (h : RdrV M p l x) :
    FnP Tryz.prog 61 [.pointer (some ⟨p, 0, none⟩)] M [x]
      (fun r M' A' => M = M' ∧ ∃ v l' q, l = v :: l' ∧ v.k = 3 ∧ r = .pointer (some ⟨q, 0, none⟩) ∧ ∃ x' y, A' = [y, x'] ∧ RdrV M p l' x' ∧ RdrV M q v.l y)
      (fun ch M' A' => Fl ch A' ∧ ∀ v l', l = v :: l' → v.k ≠ 3) := by
  refine FnP.intro Tryz.func61 rfl rfl Tryz.ntmps61 rfl fun E F => ?_
  (repeat (first | ((with_reducible refine Tr.step rfl ?_); (first | (refine xmQ (z := ?_)) | (refine xaQ (z := ?_)))) | (with_reducible first | apply Tr.next | apply Tr.seq | apply Tr.region | apply Tr.nil)))
  ((refine Tr.step rfl ?_))
  refine Exec.callP rfl (next_fr M p l x 3 h) (List.Perm.refl _) rfl (fun r M' A' hm hR => ?_) (fun ch M' A' hm hR => ?_)
  rotate_left
  · obtain ⟨⟨rfl, rfl⟩, hno⟩ := hR
    (repeat ((with_reducible refine Tr.then_panic ?_)))
    refine Tr.doneP (A' := []) hm (by repeat (first | exact DropL.refl | apply DropL.skip)) ⟨⟨rfl, rfl⟩, hno⟩
  obtain ⟨rfl, v, l', rfl, hk, hV, x', rfl, hx'⟩ := hR
  obtain ⟨A1, k1, rfl, -, hVl, -⟩ := hV.open_
  (repeat (first | ((with_reducible refine Tr.step rfl ?_); (first | (refine xaQ (z := ?_)) | ((with_reducible refine Knd.box ?_); (refine Exec.box rfl rfl (fun b => ?_))) | ((with_reducible refine Knd.field ?_); (refine Exec.stab rfl (Stab.field rfl (tysOk.get rfl) rfl rfl (tysOk.get rfl) rfl rfl) rfl ?_)) | ((with_reducible refine Knd.build ?_); (refine Exec.stab rfl (Stab.build tysOk rfl rfl rfl rfl (by repeat (first | exact BuildP.nil | ((apply BuildP.one); (rfl); (rfl); (first | rfl | assumption); (repeat (first | exact SetL.z | apply SetL.s)))))) rfl ?_)))) | (with_reducible first | apply Tr.next | apply Tr.nil | apply Tr.ret)))
  refine Tr.ofPost ?_
  refine Tr.doneA (A' := [box _ 101 _, x']) (by first | exact .inl rfl | exact .inr rfl) rfl (by repeat (first | exact RVs.nil | (apply RVs.cons; (exact RV.tmp rfl)))) hm ⟨fun _ h => h, fun h => h⟩ ⟨rfl, v, l', _, rfl, hk, rfl, x', _, rfl, hx', _, _, rfl, hVl, small_sub (h.small.2 v List.mem_cons_self).1 (h.small.2 v List.mem_cons_self).2 hk⟩
set_option maxHeartbeats 1000000 in
theorem end_rd (M : Mem) (p : Nat) (l : List Val) (x : Res) (h : RdrV M p l x) :
    FnP Tryz.prog 64 [.pointer (some ⟨p, 0, none⟩)] M [x]
      (fun _ M' A' => M = M' ∧ l = [] ∧ A' = [x])
      (fun ch M' A' => Fl ch A' ∧ l ≠ []) := by
  obtain ⟨A, c, rfl, hl, hsm⟩ := h
  refine FnP.intro Tryz.func64 rfl rfl Tryz.ntmps64 rfl fun E F => ?_
  by_cases h0 : (l.length : Int) > 0
  · (repeat (first | ((with_reducible refine Tr.step rfl ?_); (first | (refine xmQ (z := ?_)) | (refine xlQ (z := ?_)) | (refine xfQ (z := ?_)) | (refine xnQ (z := ?_)) | ((with_reducible refine Knd.nilCheck ?_); (refine Exec.stab rfl (Stab.nilCheck rfl) rfl ?_)) | ((with_reducible refine Knd.makeInterface ?_); (refine Exec.stab rfl (Stab.makeIface rfl (by kernel_rfl)) rfl ?_)) | ((with_reducible refine Knd.panic ?_); (refine Exec.panic rfl ?_)) | (refine xiQ (z := ?_)))) | (with_reducible first | apply Tr.next | apply Tr.seq | apply Tr.region | apply Tr.nil) | (refine Tr.cond_t rfl (by (with_reducible assumption)) ?_)))
    refine Tr.doneP (A' := []) (Mem.le.refl _) (by repeat (first | exact DropL.refl | apply DropL.skip)) ⟨⟨rfl, rfl⟩, fun e => by rw [e] at h0; exact absurd h0 (by simp)⟩
  · (repeat (first | ((with_reducible refine Tr.step rfl ?_); (first | (refine xmQ (z := ?_)) | (refine xlQ (z := ?_)) | (refine xfQ (z := ?_)) | (refine xnQ (z := ?_)) | ((with_reducible refine Knd.nilCheck ?_); (refine Exec.stab rfl (Stab.nilCheck rfl) rfl ?_)) | (refine xiQ (z := ?_)))) | (with_reducible first | apply Tr.next | apply Tr.seq | apply Tr.region | apply Tr.nil | apply Tr.skip) | (refine Tr.cond_f rfl (by (with_reducible assumption)) ?_)))
    refine Tr.ofPost ?_
    refine Tr.doneA (A' := [box p 101 _]) (by first | exact .inl rfl | exact .inr rfl) rfl (by repeat (exact RVs.nil)) (Mem.le.refl _) ⟨fun _ h => h, fun h => h⟩ ⟨rfl, List.length_eq_zero_iff.1 (by omega), rfl⟩
set_option maxHeartbeats 2000000 in
theorem seal_rd : Rd 63 sealO (fun _ r s => r = .agg (byteV s).toArray) := by
  intro M p l x h
  refine FnP.intro Tryz.func63 rfl rfl Tryz.ntmps63 rfl fun E F => ?_
  (repeat (first | ((with_reducible refine Tr.step rfl ?_); (first | (refine xmQ (z := ?_)) | ((with_reducible refine Knd.alloc ?_); (refine Exec.alloc (tysOk.get rfl) rfl rfl (fun b => ?_))))) | (with_reducible first | apply Tr.next | apply Tr.seq | apply Tr.region | apply Tr.nil)))
  generalize b = b2
  ((refine Tr.step rfl ?_))
  refine Exec.callP (A := [x]) rfl (next_fr M p l x 2 h) ((List.Perm.swap _ _ _)) rfl (fun r M' A' hm hR => ?_) (fun ch M' A' hm hR => ?_)
  rotate_left
  · obtain ⟨⟨rfl, rfl⟩, hno⟩ := hR
    (repeat ((with_reducible refine Tr.then_panic ?_)))
    refine Tr.doneP (A' := []) hm (by repeat (first | exact DropL.refl | apply DropL.skip)) ⟨⟨rfl, rfl⟩, fun v l' e => by rw [sealO, if_neg (fun h => hno v l' e h.1)]⟩
  obtain ⟨rfl, v, l', rfl, hk, hV, x', rfl, hx'⟩ := hR
  obtain ⟨A1, k1, rfl, -, -, -, -, hsl⟩ := hV.open_
  by_cases hs : (v.s.length : Int) ≠ 32
  · (repeat (first | ((with_reducible refine Tr.step rfl ?_); (first | (refine xlQ (z := ?_)) | (refine xfQ (z := ?_)) | ((with_reducible refine Knd.len ?_); (refine Exec.stab rfl (Stab.lensL rfl (tysOk.get rfl) rfl) rfl ?_)) | ((with_reducible refine Knd.makeInterface ?_); (refine Exec.stab rfl (Stab.makeIface rfl (by kernel_rfl)) rfl ?_)) | ((with_reducible refine Knd.panic ?_); (refine Exec.panic rfl ?_)) | (refine xiQ (z := ?_)) | (refine xWQ (z := ?_)) | ((with_reducible refine Knd.alloc ?_); (refine Exec.alloc (tysOk.get rfl) rfl rfl (fun b => ?_))))) | (with_reducible first | apply Tr.next | apply Tr.seq | apply Tr.region | apply Tr.nil | apply Tr.then_panic) | (refine Tr.cond_t rfl (by (with_reducible assumption)) ?_)))
    refine Tr.doneP (A' := []) hm (by repeat (first | exact DropL.refl | apply DropL.skip)) ⟨⟨rfl, rfl⟩, fun w l' e => by cases e; rw [sealO, if_neg (fun h => hs (by rw [h.2]; rfl))]⟩
  have hs32 : v.s.length = 32 := by omega
  have hbv : (byteV v.s).length = 32 := by simpa using hs32
  (repeat (first | ((with_reducible refine Tr.step rfl ?_); (first | (refine xlQ (z := ?_)) | (refine xfQ (z := ?_)) | ((with_reducible refine Knd.len ?_); (refine Exec.stab rfl (Stab.lensL rfl (tysOk.get rfl) rfl) rfl ?_)) | (refine xiQ (z := ?_)) | (refine xWQ (z := ?_)) | ((with_reducible refine Knd.alloc ?_); (refine Exec.alloc (tysOk.get rfl) rfl rfl (fun b => ?_))))) | (with_reducible first | apply Tr.next | apply Tr.seq | apply Tr.region | apply Tr.nil | apply Tr.skip) | (refine Tr.cond_f rfl (by (with_reducible assumption)) ?_)))
  refine Tr.cells (b := b2) (cs' := byteV (List.replicate 32 0)) (by repeat (first | exact Upd.here | apply Upd.there)) (by kernel_rfl) ?_
  (((apply Tr.draw); (kernel_rfl)); (refine tkQ 0 (hB := by exact fun _ h => h) (s := by exact Stab.sliceArr rfl (tysOk.get rfl) rfl (tysOk.get rfl) rfl) (h := ?_)); (refine tkQ 1 (s := by exact sfQ) (h := ?_)); (refine tkQ 2 (s := by exact slQ) (h := ?_)); (refine TrA.effD 3 rfl (by kernel_rfl) (by kernel_rfl) (by exact .inl rfl) ?_))
  refine Exec.copyStr (l := v.s) (cs := byteV (List.replicate 32 0)) rfl rfl (tysOk.get rfl) rfl (tysOk.get rfl) rfl (by omega) (by rw [hs32]; simp) (by repeat (first | exact Upd.here | apply Upd.there)) rfl ?_
  refine ⟨_, fun _ h => h, ?_⟩
  ((refine TrA.done (by kernel_rfl) ?_))
  refine Tr.cells (b := b2) (cs' := byteV v.s) (by repeat (first | exact Upd.here | apply Upd.there)) (by rw [hs32]; simp) ?_
  refine gvQ (r := box b 53 _) (k := ?_)
  (repeat (first | ((with_reducible refine Tr.step rfl ?_); (first | ((with_reducible refine Knd.load ?_); (refine Exec.stab rfl (Stab.loadW rfl (tysOk.get rfl) rfl (by repeat (first | exact Has.here | apply Has.there)) (by assumption)) rfl ?_)) | ((with_reducible refine Knd.store ?_); (refine Exec.storeW rfl rfl (tysOk.get rfl) (by repeat (first | exact Upd.here | apply Upd.there)) (by first | rfl | assumption) (by first | rfl | assumption) (by exact AllOne.bytes _) ?_)))) | (with_reducible first | apply Tr.next | apply Tr.seq | apply Tr.region | apply Tr.nil | apply Tr.ret)))
  refine Tr.ofPost ?_
  refine Tr.doneB (A' := [x']) [box b2 25 (byteV v.s)] (by first | exact .inl rfl | exact .inr rfl) rfl (by repeat (first | exact RVs.nil | (apply RVs.cons; (exact RV.cellW (by rfl) (tysOk.get (by rfl)) (by rfl) (by repeat (first | exact Has.here | apply Has.there)) (by first | rfl | assumption))))) hm (List.Perm.swap _ _ _) ⟨hm, v, l', v.s, rfl, by rw [sealO, if_pos ⟨hk, hs32⟩], rfl, x', rfl, hx'⟩
end Go.Proofs.YtghjhdbmkilakaaGreatDoor

/-
  Frames: lists of numbers, of lists and of relations, as they are read.
  Conditions: none.
-/
namespace Go.Proofs.YtghjhdbmkilakaaGreatDoor
open Go Bf
attribute [local irreducible] Tr Exec Stab HasTy Go.Addr.add IntKind.wrap
theorem many_snoc {α : Type} {g : Val → Option α} {l l' : List Val} {v : Val} {ys : List α} {a : α} (h : manyO g l = (manyO g (v :: l')).map (ys ++ ·)) (ha : g v = some a) : manyO g l = (manyO g l').map ((ys ++ [a]) ++ ·) := by
  rw [h, manyO, ha]
  cases manyO g l' with
  | none => rfl
  | some z => simp
theorem many_none {α : Type} {g : Val → Option α} {l l' : List Val} {v : Val} {ys : List α} (h : manyO g l = (manyO g (v :: l')).map (ys ++ ·)) (ha : g v = none) : manyO g l = none := by
  rw [h, manyO, ha]; rfl
set_option maxHeartbeats 4000000 in
theorem allI (M : Mem) (q : Nat) (l : List Val) (y : Res) (hy : RdrV M q l y) :
    FnP Tryz.prog 100 [.pointer (some ⟨q, 0, none⟩), .func (.func 58) #[] #[]] M [y]
      (fun r M' A' => Mem.le M M' ∧ A' = [] ∧ ∃ xs B k, manyO nO l = some xs ∧ r = .slice B xs.length k ∧ SlOf 1 RI M' (.slice B xs.length k) xs)
      (fun ch _ A' => Fl ch A' ∧ manyO nO l = none) := by
  refine FnP.intro Tryz.func100 rfl rfl Tryz.ntmps100 rfl fun E F => ?_
  obtain ⟨A, c, rfl, hl, hsm⟩ := hy
  (repeat (first | ((with_reducible refine Tr.step rfl ?_); (with_reducible refine Knd.assign ?_); (refine xaQ (z := ?_))) | (with_reducible first | apply Tr.next | apply Tr.seq | apply Tr.region | apply Tr.nil | apply Tr.block)))
  refine Tr.own_nil 3 1 ?_
  refine Tr.loop (α := List Int × List Val × Option Addr × Nat × Option Addr × Nat × List Value × Mem) (fun y => ⟨19, [(5, .slice y.2.2.2.2.1 y.1.length y.2.2.2.2.2.1), (0, .pointer (some ⟨q, 0, none⟩)), (1, .func (.func 58) #[] #[])], [], y.2.2.2.2.2.2.2,
      ownS 3 1 y.2.2.2.2.1 y.1.length y.2.2.2.2.2.1 y.2.2.2.2.2.2.1 :: box q 101 [.slice y.2.2.1 y.2.1.length y.2.2.2.1] :: F⟩)
    (fun y => Mem.le M y.2.2.2.2.2.2.2 ∧ y.2.2.2.2.2.1 ≤ 9223372036854775807 ∧ Elems 1 RI y.2.2.2.2.2.2.2 y.2.2.2.2.2.2.1 y.1 ∧ RVals y.2.2.2.2.2.2.2 (.slice y.2.2.1 y.2.1.length y.2.2.2.1) y.2.1 ∧ SmallL y.2.1 ∧ y.1.length + y.2.1.length = l.length ∧ manyO nO l = (manyO nO y.2.1).map (y.1 ++ ·)) (fun y => y.2.1.length)
    ([], l, A, c, none, 0, [], M) ⟨Mem.le.refl _, Nat.zero_le _, Elems.nil, hl, hsm, by simp, by simp only [List.nil_append]; cases manyO nO l <;> rfl⟩ hsQ (fun y hy => ?_)
  obtain ⟨ys, l', A1, c1, R, rc, cs, M1⟩ := y
  obtain ⟨hm1, hc, hE, hl1, hs1, hlen, hmany⟩ := hy
  dsimp only at hm1 hc hE hl1 hs1 hlen hmany ⊢
  have hlb := hsm.1
  by_cases h0 : (l'.length : Int) > 0
  rotate_left
  · have e : l' = [] := List.length_eq_zero_iff.1 (by omega)
    subst e
    have hmany2 : manyO nO l = some ys := by rw [hmany]; simp [manyO]
    refine pbQ (r := ownS 3 1 R _ _ _) (k := fun M2 hm2 hok => ?_)
    have hm02 := hm1.trans hm2
    (repeat (first | ((with_reducible refine Tr.step rfl ?_); (first | (refine xmQ (z := ?_)) | (refine xaQ (z := ?_)) | (refine xlQ (z := ?_)) | (refine xfQ (z := ?_)) | (refine xnQ (z := ?_)) | ((with_reducible refine Knd.nilCheck ?_); (refine Exec.stab rfl (Stab.nilCheck rfl) rfl ?_)) | (refine xiQ (z := ?_)))) | (with_reducible first | apply Tr.next | apply Tr.seq | apply Tr.region | apply Tr.nil | apply Tr.exit | apply Tr.ret | apply Tr.then_exit) | ((with_reducible refine Tr.in_exit ?_ ?_); (exact rfl)) | (refine Tr.cond_f rfl (by (with_reducible assumption)) ?_)))
    refine gvQ (r := box q 101 _) (k := ?_)
    refine Tr.ofPost ?_
    refine Tr.doneA (A' := []) (by first | exact .inl rfl | exact .inr rfl) rfl (by repeat (first | exact RVs.nil | (apply RVs.cons; (exact RV.tmp rfl)))) hm02 ⟨fun _ h => h, fun h => h⟩ ⟨hm02, rfl, ys, R, rc, hmany2, rfl, SlOf.ofOwn hok rfl hc (hE.mono RI.mono hm2)⟩
  (repeat (first | ((with_reducible refine Tr.step rfl ?_); (first | (refine xmQ (z := ?_)) | (refine xlQ (z := ?_)) | (refine xfQ (z := ?_)) | (refine xnQ (z := ?_)) | ((with_reducible refine Knd.nilCheck ?_); (refine Exec.stab rfl (Stab.nilCheck rfl) rfl ?_)) | (refine xiQ (z := ?_)))) | (with_reducible first | apply Tr.next | apply Tr.seq | apply Tr.region | apply Tr.nil | apply Tr.skip | apply Tr.block) | (refine Tr.cond_t rfl (by (with_reducible assumption)) ?_)))
  ((refine Tr.step rfl ?_))
  refine Exec.callPv (first := []) (cap := []) (A := [box q 101 [.slice A1 l'.length c1]]) rfl rfl (number_rd M1 q l' _ ⟨A1, c1, rfl, hl1, hs1⟩) (List.Perm.swap _ _ _) rfl (fun r M' A' hm hR => ?_) (fun ch M' A' hm hR => ?_)
  rotate_left
  · obtain ⟨⟨rfl, rfl⟩, hno⟩ := hR
    cases l' with
    | nil => exact absurd h0 (by simp)
    | cons v l' =>
    have hmany2 := many_none hmany (hno v l' rfl)
    refine gvQ (r := ownS 3 1 R _ _ _) (k := ?_)
    (repeat (first | (with_reducible first | apply Tr.then_panic | apply Tr.in_panic)))
    refine Tr.doneP (A' := []) (hm1.trans hm) (by repeat (first | exact DropL.refl | apply DropL.skip)) ⟨⟨rfl, rfl⟩, hmany2⟩
  obtain ⟨-, v, l2, a, rfl, ha, hRa, x', rfl, A2, c2, rfl, hl2, hs2⟩ := hR
  have hmany2 := many_snoc hmany ha
  obtain rfl := hRa
  refine ftQ (r := ownS 3 1 R _ _ _) (k := ?_)
  (repeat (((with_reducible refine Tr.step rfl ?_); (with_reducible refine Knd.buildSlice ?_); (refine Exec.buildSlice (tysOk.get rfl) rfl (tysOk.get rfl) rfl rfl rfl rfl rfl (by repeat (first | exact BuildP.nil | ((apply BuildP.one); (rfl); (rfl); (first | rfl | assumption); (repeat (first | exact SetL.z | apply SetL.s))))) rfl (fun b => ?_)))))
  ((refine Tr.step rfl ?_))
  refine Exec.append (A := R) (news := [.int .i64 a]) rfl rfl (tysOk.get rfl) rfl (tysOk.get rfl) rfl rfl rfl rfl (by repeat (first | exact Del.here | apply Del.there)) (Src.box (by repeat (first | exact Has.here | apply Has.there))) rfl (by intro u hu; simp at hu; (subst hu; rfl)) (by simp only [List.length_cons] at hlen; omega) (by simp only [List.length_cons] at hlen; omega) rfl (fun R2 rc2 hrc2 => ?_)
  refine gvQ (r := box _ 3 [.int .i64 a]) (k := ?_)
  (repeat (first | ((with_reducible refine Tr.step rfl ?_); (with_reducible refine Knd.assign ?_); (refine xaQ (z := ?_))) | (with_reducible first | apply Tr.next | apply Tr.nil | apply Tr.in_normal)))
  refine Tr.again (ys ++ [a], l2, A2, c2, R2, rc2, cs ++ [.int .i64 a], M') ⟨hm1.trans hm, hrc2, (hE.mono RI.mono hm).append (Elems.one (cs := [.int .i64 a]) rfl (by exact rfl)), hl2, hs2, by simp only [List.length_append, List.length_cons, List.length_nil] at hlen ⊢; omega, hmany2⟩ (by simp only [List.length_cons]; omega) ?_
  rw [show ys.length + 1 = (ys ++ [a]).length by rw [List.length_append, List.length_singleton]]
  exact hsQ
set_option maxHeartbeats 1000000 in
theorem numbers_rd : Rd 59 (lO nO) (fun M r xs => ∃ B k, r = .slice B xs.length k ∧ Ints M (.slice B xs.length k) xs) := by
  intro M p l x h
  refine FnP.intro Tryz.func59 rfl rfl Tryz.ntmps59 rfl fun E F => ?_
  (repeat (first | ((with_reducible refine Tr.step rfl ?_); (first | (refine xmQ (z := ?_)) | (refine xaQ (z := ?_)))) | (with_reducible first | apply Tr.next | apply Tr.seq | apply Tr.region | apply Tr.nil)))
  ((refine Tr.step rfl ?_))
  refine Exec.callP rfl (list_rd M p l x h) (List.Perm.refl _) rfl (fun r M' A' hm hR => ?_) (fun ch M' A' hm hR => ?_)
  rotate_left
  · obtain ⟨⟨rfl, rfl⟩, hno⟩ := hR
    (repeat ((with_reducible refine Tr.then_panic ?_)))
    refine Tr.doneP (A' := []) hm (by repeat (first | exact DropL.refl | apply DropL.skip)) ⟨⟨rfl, rfl⟩, fun v l' e => by rw [lO, if_neg (hno v l' e)]⟩
  obtain ⟨rfl, v, l', q, rfl, hk, rfl, x', y, rfl, hx', hy⟩ := hR
  have hg : lO nO v = manyO nO v.l := by rw [lO, if_pos hk]
  (skip)
  ((refine Tr.step rfl ?_))
  refine Exec.callP (A := [y]) rfl (allI M q v.l y hy) (List.Perm.refl _) rfl (fun r M' A' hm1 hR => ?_) (fun ch M' A' hm1 hR => ?_)
  rotate_left
  · obtain ⟨⟨rfl, rfl⟩, hno⟩ := hR
    (repeat ((with_reducible refine Tr.then_panic ?_)))
    refine gvQ (r := x') (k := ?_)
    refine Tr.doneP (A' := []) hm1 (by repeat (first | exact DropL.refl | apply DropL.skip)) ⟨⟨rfl, rfl⟩, fun w l' e => by cases e; rw [hg, hno]⟩
  obtain ⟨-, rfl, xs, B, k, hxs, rfl, hS⟩ := hR
  (repeat (first | ((with_reducible refine Tr.step rfl ?_); (with_reducible refine Knd.assign ?_); (refine xaQ (z := ?_))) | (with_reducible first | apply Tr.next | apply Tr.nil | apply Tr.ret)))
  refine Tr.ofPost ?_
  refine Tr.doneA (A' := [x']) (by first | exact .inl rfl | exact .inr rfl) rfl (by repeat (first | exact RVs.nil | (apply RVs.cons; (exact RV.tmp rfl)))) hm1 ⟨fun _ h => h, fun h => h⟩ ⟨hm1, v, l', xs, rfl, by rw [hg, hxs], ⟨B, k, rfl, hS⟩, x', rfl, hx'.mono hm1⟩
set_option maxHeartbeats 4000000 in
theorem allL (M : Mem) (q : Nat) (l : List Val) (y : Res) (hy : RdrV M q l y) :
    FnP Tryz.prog 101 [.pointer (some ⟨q, 0, none⟩), .func (.func 59) #[] #[]] M [y]
      (fun r M' A' => Mem.le M M' ∧ A' = [] ∧ ∃ xs B k, manyO (lO nO) l = some xs ∧ r = .slice B xs.length k ∧ SlOf 1 RRowI M' (.slice B xs.length k) xs)
      (fun ch _ A' => Fl ch A' ∧ manyO (lO nO) l = none) := by
  refine FnP.intro Tryz.func101 rfl rfl Tryz.ntmps101 rfl fun E F => ?_
  obtain ⟨A, c, rfl, hl, hsm⟩ := hy
  (repeat (first | ((with_reducible refine Tr.step rfl ?_); (with_reducible refine Knd.assign ?_); (refine xaQ (z := ?_))) | (with_reducible first | apply Tr.next | apply Tr.seq | apply Tr.region | apply Tr.nil | apply Tr.block)))
  refine Tr.own_nil 22 1 ?_
  refine Tr.loop (α := List (List Int) × List Val × Option Addr × Nat × Option Addr × Nat × List Value × Mem) (fun y => ⟨19, [(5, .slice y.2.2.2.2.1 y.1.length y.2.2.2.2.2.1), (0, .pointer (some ⟨q, 0, none⟩)), (1, .func (.func 59) #[] #[])], [], y.2.2.2.2.2.2.2,
      ownS 22 1 y.2.2.2.2.1 y.1.length y.2.2.2.2.2.1 y.2.2.2.2.2.2.1 :: box q 101 [.slice y.2.2.1 y.2.1.length y.2.2.2.1] :: F⟩)
    (fun y => Mem.le M y.2.2.2.2.2.2.2 ∧ y.2.2.2.2.2.1 ≤ 9223372036854775807 ∧ Elems 1 RRowI y.2.2.2.2.2.2.2 y.2.2.2.2.2.2.1 y.1 ∧ RVals y.2.2.2.2.2.2.2 (.slice y.2.2.1 y.2.1.length y.2.2.2.1) y.2.1 ∧ SmallL y.2.1 ∧ y.1.length + y.2.1.length = l.length ∧ manyO (lO nO) l = (manyO (lO nO) y.2.1).map (y.1 ++ ·)) (fun y => y.2.1.length)
    ([], l, A, c, none, 0, [], M) ⟨Mem.le.refl _, Nat.zero_le _, Elems.nil, hl, hsm, by simp, by simp only [List.nil_append]; cases manyO (lO nO) l <;> rfl⟩ hsQ (fun y hy => ?_)
  obtain ⟨ys, l', A1, c1, R, rc, cs, M1⟩ := y
  obtain ⟨hm1, hc, hE, hl1, hs1, hlen, hmany⟩ := hy
  dsimp only at hm1 hc hE hl1 hs1 hlen hmany ⊢
  have hlb := hsm.1
  by_cases h0 : (l'.length : Int) > 0
  rotate_left
  · have e : l' = [] := List.length_eq_zero_iff.1 (by omega)
    subst e
    have hmany2 : manyO (lO nO) l = some ys := by rw [hmany]; simp [manyO]
    refine pbQ (r := ownS 22 1 R _ _ _) (k := fun M2 hm2 hok => ?_)
    have hm02 := hm1.trans hm2
    (repeat (first | ((with_reducible refine Tr.step rfl ?_); (first | (refine xmQ (z := ?_)) | (refine xaQ (z := ?_)) | (refine xlQ (z := ?_)) | (refine xfQ (z := ?_)) | (refine xnQ (z := ?_)) | ((with_reducible refine Knd.nilCheck ?_); (refine Exec.stab rfl (Stab.nilCheck rfl) rfl ?_)) | (refine xiQ (z := ?_)))) | (with_reducible first | apply Tr.next | apply Tr.seq | apply Tr.region | apply Tr.nil | apply Tr.exit | apply Tr.ret | apply Tr.then_exit) | ((with_reducible refine Tr.in_exit ?_ ?_); (exact rfl)) | (refine Tr.cond_f rfl (by (with_reducible assumption)) ?_)))
    refine gvQ (r := box q 101 _) (k := ?_)
    refine Tr.ofPost ?_
    refine Tr.doneA (A' := []) (by first | exact .inl rfl | exact .inr rfl) rfl (by repeat (first | exact RVs.nil | (apply RVs.cons; (exact RV.tmp rfl)))) hm02 ⟨fun _ h => h, fun h => h⟩ ⟨hm02, rfl, ys, R, rc, hmany2, rfl, SlOf.ofOwn hok rfl hc (hE.mono RRowI.mono hm2)⟩
  (repeat (first | ((with_reducible refine Tr.step rfl ?_); (first | (refine xmQ (z := ?_)) | (refine xlQ (z := ?_)) | (refine xfQ (z := ?_)) | (refine xnQ (z := ?_)) | ((with_reducible refine Knd.nilCheck ?_); (refine Exec.stab rfl (Stab.nilCheck rfl) rfl ?_)) | (refine xiQ (z := ?_)))) | (with_reducible first | apply Tr.next | apply Tr.seq | apply Tr.region | apply Tr.nil | apply Tr.skip | apply Tr.block) | (refine Tr.cond_t rfl (by (with_reducible assumption)) ?_)))
  ((refine Tr.step rfl ?_))
  refine Exec.callPv (first := []) (cap := []) (A := [box q 101 [.slice A1 l'.length c1]]) rfl rfl (numbers_rd M1 q l' _ ⟨A1, c1, rfl, hl1, hs1⟩) (List.Perm.swap _ _ _) rfl (fun r M' A' hm hR => ?_) (fun ch M' A' hm hR => ?_)
  rotate_left
  · obtain ⟨⟨rfl, rfl⟩, hno⟩ := hR
    cases l' with
    | nil => exact absurd h0 (by simp)
    | cons v l' =>
    have hmany2 := many_none hmany (hno v l' rfl)
    refine gvQ (r := ownS 22 1 R _ _ _) (k := ?_)
    (repeat (first | (with_reducible first | apply Tr.then_panic | apply Tr.in_panic)))
    refine Tr.doneP (A' := []) (hm1.trans hm) (by repeat (first | exact DropL.refl | apply DropL.skip)) ⟨⟨rfl, rfl⟩, hmany2⟩
  obtain ⟨-, v, l2, a, rfl, ha, hRa, x', rfl, A2, c2, rfl, hl2, hs2⟩ := hR
  have hmany2 := many_snoc hmany ha
  obtain ⟨B0, k0, rfl, hS0⟩ := hRa
  refine ftQ (r := ownS 22 1 R _ _ _) (k := ?_)
  (repeat (((with_reducible refine Tr.step rfl ?_); (with_reducible refine Knd.buildSlice ?_); (refine Exec.buildSlice (tysOk.get rfl) rfl (tysOk.get rfl) rfl rfl rfl rfl rfl (by repeat (first | exact BuildP.nil | ((apply BuildP.one); (rfl); (rfl); (first | rfl | assumption); (repeat (first | exact SetL.z | apply SetL.s))))) rfl (fun b => ?_)))))
  ((refine Tr.step rfl ?_))
  refine Exec.append (A := R) (news := [.slice B0 a.length k0]) rfl rfl (tysOk.get rfl) rfl (tysOk.get rfl) rfl rfl rfl rfl (by repeat (first | exact Del.here | apply Del.there)) (Src.box (by repeat (first | exact Has.here | apply Has.there))) rfl (by intro u hu; simp at hu; (subst hu; rfl)) (by simp only [List.length_cons] at hlen; omega) (by simp only [List.length_cons] at hlen; omega) rfl (fun R2 rc2 hrc2 => ?_)
  refine gvQ (r := box _ 22 [.slice B0 a.length k0]) (k := ?_)
  (repeat (first | ((with_reducible refine Tr.step rfl ?_); (with_reducible refine Knd.assign ?_); (refine xaQ (z := ?_))) | (with_reducible first | apply Tr.next | apply Tr.nil | apply Tr.in_normal)))
  refine Tr.again (ys ++ [a], l2, A2, c2, R2, rc2, cs ++ [.slice B0 a.length k0], M') ⟨hm1.trans hm, hrc2, (hE.mono RRowI.mono hm).append (Elems.one (cs := [.slice B0 a.length k0]) rfl ⟨B0, k0, rfl, hS0⟩), hl2, hs2, by simp only [List.length_append, List.length_cons, List.length_nil] at hlen ⊢; omega, hmany2⟩ (by simp only [List.length_cons]; omega) ?_
  rw [show ys.length + 1 = (ys ++ [a]).length by rw [List.length_append, List.length_singleton]]
  exact hsQ
set_option maxHeartbeats 2000000 in
theorem relation_rd : Rd 62 relO (fun M r a => ∃ cs : List Value, r = .agg cs.toArray ∧ RRel M cs a) := by
  intro M p l x h
  refine FnP.intro Tryz.func62 rfl rfl Tryz.ntmps62 rfl fun E F => ?_
  (repeat (first | ((with_reducible refine Tr.step rfl ?_); (first | (refine xmQ (z := ?_)) | ((with_reducible refine Knd.alloc ?_); (refine Exec.alloc (tysOk.get rfl) rfl rfl (fun b => ?_))))) | (with_reducible first | apply Tr.next | apply Tr.seq | apply Tr.region | apply Tr.nil)))
  generalize b = b2
  ((refine Tr.step rfl ?_))
  refine Exec.callP (A := [x]) rfl (list_rd M p l x h) (List.Perm.swap _ _ _) rfl (fun r M' A' hm hR => ?_) (fun ch M' A' hm hR => ?_)
  rotate_left
  · obtain ⟨⟨rfl, rfl⟩, hno⟩ := hR
    (repeat ((with_reducible refine Tr.then_panic ?_)))
    refine Tr.doneP (A' := []) hm (by repeat (first | exact DropL.refl | apply DropL.skip)) ⟨⟨rfl, rfl⟩, fun v l' e => by rw [relO, if_neg (hno v l' e)]⟩
  obtain ⟨rfl, v, l', q, rfl, hk, rfl, x', y, rfl, hx', hy⟩ := hR
  (repeat (first | ((with_reducible refine Tr.step rfl ?_); (first | (refine xmQ (z := ?_)) | (refine xaQ (z := ?_)))) | (with_reducible first | apply Tr.next | apply Tr.seq | apply Tr.region | apply Tr.nil)))
  ((refine Tr.step rfl ?_))
  refine Exec.callP (A := [y]) rfl (numbers_rd M q v.l y hy) (List.Perm.refl _) rfl (fun r M' A' hm1 hR => ?_) (fun ch M' A' hm1 hR => ?_)
  rotate_left
  · obtain ⟨⟨rfl, rfl⟩, hno⟩ := hR
    (repeat ((with_reducible refine Tr.then_panic ?_)))
    refine Tr.less [] ([] ++ F) (by repeat (first | exact SubFr.nil | refine SubFr.cons rfl ?_)) (by repeat (first | exact DropL.refl | apply DropL.skip)) ?_
    refine Tr.doneP (A' := []) hm1 (by repeat (first | exact DropL.refl | apply DropL.skip)) ⟨⟨rfl, rfl⟩, fun w l' e => ?_⟩
    cases e
    rw [relO, if_pos hk]
    split
    · rename_i a b hab
      rw [hno a [b] hab]
    · rfl
  obtain ⟨-, v1, l1, o, hvl, ho, ⟨B1, k1, rfl, hS1⟩, y1, rfl, hy1⟩ := hR
  (repeat (((with_reducible refine Tr.step rfl ?_); (with_reducible refine Knd.move ?_); (refine xmQ (z := ?_)))))
  ((refine Tr.step rfl ?_))
  refine Exec.callP (A := [y1]) rfl (list_rd M' q l1 y1 hy1) (List.Perm.refl _) rfl (fun r M2 A' hm2 hR => ?_) (fun ch M2 A' hm2 hR => ?_)
  rotate_left
  · obtain ⟨⟨rfl, rfl⟩, hno⟩ := hR
    (repeat ((with_reducible refine Tr.then_panic ?_)))
    refine Tr.less [] ([] ++ F) (by repeat (first | exact SubFr.nil | refine SubFr.cons rfl ?_)) (by repeat (first | exact DropL.refl | apply DropL.skip)) ?_
    refine Tr.doneP (A' := []) (hm1.trans hm2) (by repeat (first | exact DropL.refl | apply DropL.skip)) ⟨⟨rfl, rfl⟩, fun w l' e => ?_⟩
    cases e
    rw [relO, if_pos hk, hvl]
    cases l1 with
    | nil => rfl
    | cons w l1 =>
      cases l1 with
      | nil =>
        simp only
        rw [ho, lO, if_neg (hno w [] rfl)]
      | cons _ _ => rfl
  obtain ⟨rfl, w, l2, q2, rfl, hk2, rfl, y2, z, rfl, hy2, hz⟩ := hR
  have hgw : lO (lO nO) w = manyO (lO nO) w.l := by rw [lO, if_pos hk2]
  (skip)
  ((refine Tr.step rfl ?_))
  refine Exec.callP (A := [z]) rfl (allL M' q2 w.l z hz) (List.Perm.refl _) rfl (fun r M3 A' hm3 hR => ?_) (fun ch M3 A' hm3 hR => ?_)
  rotate_left
  · obtain ⟨⟨rfl, rfl⟩, hno⟩ := hR
    (repeat ((with_reducible refine Tr.then_panic ?_)))
    refine Tr.less [] ([] ++ F) (by repeat (first | exact SubFr.nil | refine SubFr.cons rfl ?_)) (by repeat (first | exact DropL.refl | apply DropL.skip)) ?_
    refine Tr.doneP (A' := []) (hm1.trans hm3) (by repeat (first | exact DropL.refl | apply DropL.skip)) ⟨⟨rfl, rfl⟩, fun u l' e => ?_⟩
    cases e
    rw [relO, if_pos hk, hvl]
    cases l2 with
    | nil => simp only; rw [ho, hgw, hno]
    | cons _ _ => rfl
  obtain ⟨-, rfl, xs, B2, k2, hxs, rfl, hS2⟩ := hR
  have hm03 := hm1.trans hm3
  (repeat (first | ((with_reducible refine Tr.step rfl ?_); (first | (refine xmQ (z := ?_)) | (refine xWQ (z := ?_)) | ((with_reducible refine Knd.alloc ?_); (refine Exec.alloc (tysOk.get rfl) rfl rfl (fun b => ?_))) | ((with_reducible refine Knd.build ?_); (refine Exec.stab rfl (Stab.build tysOk rfl rfl rfl rfl (by repeat (first | exact BuildP.nil | ((apply BuildP.one); (rfl); (rfl); (first | rfl | assumption); (repeat (first | exact SetL.z | apply SetL.s)))))) rfl ?_)))) | (with_reducible first | apply Tr.next | apply Tr.seq | apply Tr.region | apply Tr.nil)))
  generalize b = b4
  refine ftQ (r := y2) (k := ?_)
  ((refine Tr.step rfl ?_))
  refine Exec.callP (A := [y2]) rfl (end_rd M3 q l2 y2 (hy2.mono hm3)) (List.Perm.refl _) rfl (fun r M4 A' hm4 hR => ?_) (fun ch M4 A' hm4 hR => ?_)
  rotate_left
  · obtain ⟨⟨rfl, rfl⟩, hno⟩ := hR
    (repeat ((with_reducible refine Tr.then_panic ?_)))
    refine Tr.less [] ([] ++ F) (by repeat (first | exact SubFr.nil | refine SubFr.cons rfl ?_)) (by repeat (first | exact DropL.refl | apply DropL.skip)) ?_
    refine Tr.doneP (A' := []) (hm03.trans hm4) (by repeat (first | exact DropL.refl | apply DropL.skip)) ⟨⟨rfl, rfl⟩, fun u l' e => ?_⟩
    cases e
    rw [relO, if_pos hk, hvl]
    cases l2 with
    | nil => exact absurd rfl hno
    | cons _ _ => rfl
  obtain ⟨rfl, rfl, rfl⟩ := hR
  (repeat (first | ((with_reducible refine Tr.step rfl ?_); (first | (refine xwQ (z := ?_)) | (refine xWQ (z := ?_)))) | (with_reducible first | apply Tr.next | apply Tr.seq | apply Tr.region | apply Tr.nil | apply Tr.ret)))
  refine Tr.ofPost ?_
  refine Tr.less [(2, .pointer (some ⟨b2, 0, none⟩))] (x' :: box b2 49 [.slice B1 o.length k1, .slice B2 xs.length k2] :: ([] ++ F)) (by repeat (first | exact SubFr.nil | refine SubFr.cons rfl ?_)) (by repeat (first | exact DropL.refl | apply DropL.skip)) ?_
  have hrel : relO v = some ⟨o, xs⟩ := by
    rw [relO, if_pos hk, hvl]
    simp only
    rw [ho, hgw, hxs]
  refine Tr.doneB (A' := [x']) [box b2 49 [.slice B1 o.length k1, .slice B2 xs.length k2]] (by first | exact .inl rfl | exact .inr rfl) rfl (by repeat (first | exact RVs.nil | (apply RVs.cons; (exact RV.cellW (by rfl) (tysOk.get (by rfl)) (by rfl) (by repeat (first | exact Has.here | apply Has.there)) (by first | rfl | assumption))))) hm03 (List.Perm.swap _ _ _) ⟨hm03, v, l', ⟨o, xs⟩, rfl, hrel, ⟨_, rfl, B1, k1, B2, k2, rfl, hS1.mono RI.mono hm3, hS2⟩, x', rfl, hx'.mono hm03⟩
set_option maxHeartbeats 4000000 in
theorem allR (M : Mem) (q : Nat) (l : List Val) (y : Res) (hy : RdrV M q l y) :
    FnP Tryz.prog 60 [.pointer (some ⟨q, 0, none⟩), .func (.func 62) #[] #[]] M [y]
      (fun r M' A' => Mem.le M M' ∧ A' = [] ∧ ∃ xs B k, manyO relO l = some xs ∧ r = .slice B xs.length k ∧ SlOf 2 RRel M' (.slice B xs.length k) xs)
      (fun ch _ A' => Fl ch A' ∧ manyO relO l = none) := by
  refine FnP.intro Tryz.func60 rfl rfl Tryz.ntmps60 rfl fun E F => ?_
  obtain ⟨A, c, rfl, hl, hsm⟩ := hy
  (repeat (first | ((with_reducible refine Tr.step rfl ?_); (with_reducible refine Knd.assign ?_); (refine xaQ (z := ?_))) | (with_reducible first | apply Tr.next | apply Tr.seq | apply Tr.region | apply Tr.nil | apply Tr.block)))
  refine Tr.own_nil 49 2 ?_
  refine Tr.loop (α := List Rel × List Val × Option Addr × Nat × Option Addr × Nat × List Value × Mem) (fun y => ⟨19, [(5, .slice y.2.2.2.2.1 y.1.length y.2.2.2.2.2.1), (0, .pointer (some ⟨q, 0, none⟩)), (1, .func (.func 62) #[] #[])], [], y.2.2.2.2.2.2.2,
      ownS 49 2 y.2.2.2.2.1 y.1.length y.2.2.2.2.2.1 y.2.2.2.2.2.2.1 :: box q 101 [.slice y.2.2.1 y.2.1.length y.2.2.2.1] :: F⟩)
    (fun y => Mem.le M y.2.2.2.2.2.2.2 ∧ y.2.2.2.2.2.1 ≤ 9223372036854775807 ∧ Elems 2 RRel y.2.2.2.2.2.2.2 y.2.2.2.2.2.2.1 y.1 ∧ RVals y.2.2.2.2.2.2.2 (.slice y.2.2.1 y.2.1.length y.2.2.2.1) y.2.1 ∧ SmallL y.2.1 ∧ y.1.length + y.2.1.length = l.length ∧ manyO relO l = (manyO relO y.2.1).map (y.1 ++ ·)) (fun y => y.2.1.length)
    ([], l, A, c, none, 0, [], M) ⟨Mem.le.refl _, Nat.zero_le _, Elems.nil, hl, hsm, by simp, by simp only [List.nil_append]; cases manyO relO l <;> rfl⟩ hsQ (fun y hy => ?_)
  obtain ⟨ys, l', A1, c1, R, rc, cs, M1⟩ := y
  obtain ⟨hm1, hc, hE, hl1, hs1, hlen, hmany⟩ := hy
  dsimp only at hm1 hc hE hl1 hs1 hlen hmany ⊢
  have hlb := hsm.1
  by_cases h0 : (l'.length : Int) > 0
  rotate_left
  · have e : l' = [] := List.length_eq_zero_iff.1 (by omega)
    subst e
    have hmany2 : manyO relO l = some ys := by rw [hmany]; simp [manyO]
    refine pbQ (r := ownS 49 2 R _ _ _) (k := fun M2 hm2 hok => ?_)
    have hm02 := hm1.trans hm2
    (repeat (first | ((with_reducible refine Tr.step rfl ?_); (first | (refine xmQ (z := ?_)) | (refine xaQ (z := ?_)) | (refine xlQ (z := ?_)) | (refine xfQ (z := ?_)) | (refine xnQ (z := ?_)) | ((with_reducible refine Knd.nilCheck ?_); (refine Exec.stab rfl (Stab.nilCheck rfl) rfl ?_)) | (refine xiQ (z := ?_)))) | (with_reducible first | apply Tr.next | apply Tr.seq | apply Tr.region | apply Tr.nil | apply Tr.exit | apply Tr.ret | apply Tr.then_exit) | ((with_reducible refine Tr.in_exit ?_ ?_); (exact rfl)) | (refine Tr.cond_f rfl (by (with_reducible assumption)) ?_)))
    refine gvQ (r := box q 101 _) (k := ?_)
    refine Tr.ofPost ?_
    refine Tr.doneA (A' := []) (by first | exact .inl rfl | exact .inr rfl) rfl (by repeat (first | exact RVs.nil | (apply RVs.cons; (exact RV.tmp rfl)))) hm02 ⟨fun _ h => h, fun h => h⟩ ⟨hm02, rfl, ys, R, rc, hmany2, rfl, SlOf.ofOwn hok rfl hc (hE.mono RRel.mono hm2)⟩
  (repeat (first | ((with_reducible refine Tr.step rfl ?_); (first | (refine xmQ (z := ?_)) | (refine xlQ (z := ?_)) | (refine xfQ (z := ?_)) | (refine xnQ (z := ?_)) | ((with_reducible refine Knd.nilCheck ?_); (refine Exec.stab rfl (Stab.nilCheck rfl) rfl ?_)) | (refine xiQ (z := ?_)))) | (with_reducible first | apply Tr.next | apply Tr.seq | apply Tr.region | apply Tr.nil | apply Tr.skip | apply Tr.block) | (refine Tr.cond_t rfl (by (with_reducible assumption)) ?_)))
  ((refine Tr.step rfl ?_))
  refine Exec.callPv (first := []) (cap := []) (A := [box q 101 [.slice A1 l'.length c1]]) rfl rfl (relation_rd M1 q l' _ ⟨A1, c1, rfl, hl1, hs1⟩) (List.Perm.swap _ _ _) rfl (fun r M' A' hm hR => ?_) (fun ch M' A' hm hR => ?_)
  rotate_left
  · obtain ⟨⟨rfl, rfl⟩, hno⟩ := hR
    cases l' with
    | nil => exact absurd h0 (by simp)
    | cons v l' =>
    have hmany2 := many_none hmany (hno v l' rfl)
    refine gvQ (r := ownS 49 2 R _ _ _) (k := ?_)
    (repeat (first | (with_reducible first | apply Tr.then_panic | apply Tr.in_panic)))
    refine Tr.doneP (A' := []) (hm1.trans hm) (by repeat (first | exact DropL.refl | apply DropL.skip)) ⟨⟨rfl, rfl⟩, hmany2⟩
  obtain ⟨-, v, l2, a, rfl, ha, hRa, x', rfl, A2, c2, rfl, hl2, hs2⟩ := hR
  have hmany2 := many_snoc hmany ha
  obtain ⟨cs0, rfl, hRR⟩ := hRa
  have hRR0 := hRR
  obtain ⟨B0, k0, B1, k1, rfl, -, -⟩ := hRR0
  refine ftQ (r := ownS 49 2 R _ _ _) (k := ?_)
  (repeat (((with_reducible refine Tr.step rfl ?_); (with_reducible refine Knd.buildSlice ?_); (refine Exec.buildSlice (tysOk.get rfl) rfl (tysOk.get rfl) rfl rfl rfl rfl rfl (by repeat (first | exact BuildP.nil | ((apply BuildP.many); (rfl); (rfl); (rfl); (rfl); (repeat (first | exact PutL.nil | ((apply PutL.cons); (repeat (first | exact SetL.z | apply SetL.s)))))))) rfl (fun b => ?_)))))
  ((refine Tr.step rfl ?_))
  refine Exec.append (A := R) (news := [.slice B0 a.out.length k0, .slice B1 a.inn.length k1]) rfl rfl (tysOk.get rfl) rfl (tysOk.get rfl) rfl rfl rfl rfl (by repeat (first | exact Del.here | apply Del.there)) (Src.box (by repeat (first | exact Has.here | apply Has.there))) rfl (by intro u hu; simp at hu; (rcases hu with rfl | rfl <;> rfl)) (by simp only [List.length_cons] at hlen; omega) (by simp only [List.length_cons] at hlen; omega) rfl (fun R2 rc2 hrc2 => ?_)
  refine gvQ (r := box _ 49 [.slice B0 a.out.length k0, .slice B1 a.inn.length k1]) (k := ?_)
  (repeat (first | ((with_reducible refine Tr.step rfl ?_); (with_reducible refine Knd.assign ?_); (refine xaQ (z := ?_))) | (with_reducible first | apply Tr.next | apply Tr.nil | apply Tr.in_normal)))
  refine Tr.again (ys ++ [a], l2, A2, c2, R2, rc2, cs ++ [.slice B0 a.out.length k0, .slice B1 a.inn.length k1], M') ⟨hm1.trans hm, hrc2, (hE.mono RRel.mono hm).append (Elems.one (cs := [.slice B0 a.out.length k0, .slice B1 a.inn.length k1]) rfl hRR), hl2, hs2, by simp only [List.length_append, List.length_cons, List.length_nil] at hlen ⊢; omega, hmany2⟩ (by simp only [List.length_cons]; omega) ?_
  rw [show ys.length + 1 = (ys ++ [a]).length by rw [List.length_append, List.length_singleton]]
  exact hsQ
end Go.Proofs.YtghjhdbmkilakaaGreatDoor

