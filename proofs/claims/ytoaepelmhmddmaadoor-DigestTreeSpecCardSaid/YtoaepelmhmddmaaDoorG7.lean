/-
  The digest: the contracts of Grow, Concat, Tagged and node.
  Conditions: none.
-/
import Derived.Test.YtoaepelmhmddmaaDoorG4
import Derived.Test.YtoaepelmhmddmaaDoorBfConv
import Derived.Test.YtoaepelmhmddmaaDoorBfGrow
namespace Go.Proofs.YtoaepelmhmddmaaDoor
open Go Bf
attribute [local irreducible] Tr Exec Stab HasTy Go.Addr.add IntKind.wrap
set_option maxHeartbeats 2000000 in
theorem grow_fn (M : Mem) (n : Nat) (hn : n ≤ 1000000000000) : Bf.Fn Tryd.prog 45 [.slice none 0 0, .int .i64 (n : Int)] M []
    (fun r M' A' => M = M' ∧ ∃ A c, r = .slice A 0 c ∧ c ≤ 9223372036854775807 ∧ A' = [ownS 5 1 A 0 c []]) := by
  refine Fn.intro Tryd.func45 rfl rfl Tryd.ntmps45 rfl fun E F => ?_
  by_cases h0 : 0 < n
  · repeat (first | ((with_reducible refine Tr.step rfl ?_); (first | ((with_reducible refine Knd.move ?_); (refine Exec.stab rfl (Stab.move rfl) rfl ?_)) | ((with_reducible refine Knd.assign ?_); (refine Exec.stab rfl (Stab.assign rfl) rfl ?_)) | ((with_reducible refine Knd.len ?_); ((refine Exec.stab rfl (Stab.len rfl (tysOk.get rfl) rfl) rfl ?_))) | ((with_reducible refine Knd.cap ?_); (refine Exec.stab rfl (Stab.cap rfl (tysOk.get rfl) rfl) rfl ?_)) | ((with_reducible refine Knd.binOp ?_); (first | (refine Exec.stab rfl (Stab.subi rfl rfl (by omega)) rfl ?_) | (refine Exec.stab rfl (Stab.int rfl rfl rfl) rfl ?_))) | ((with_reducible refine Knd.slice ?_); ((refine Exec.stab rfl (Stab.slice_h rfl rfl (tysOk.get rfl) rfl (tysOk.get rfl) (by omega) (by omega)) rfl ?_))))) | (with_reducible refine Tr.next ?_) | (with_reducible refine Tr.seq ?_) | (with_reducible refine Tr.region ?_) | (with_reducible refine Tr.nil ?_) | (with_reducible refine Tr.skip ?_) | (refine Tr.cond_t rfl (by first | (with_reducible assumption) | (with_reducible rfl) | (with_reducible exact (not_not_intro rfl)) | omega) ?_) | (refine Tr.cond_f rfl (by first | (with_reducible assumption) | (with_reducible rfl) | (with_reducible exact (not_not_intro rfl)) | omega) ?_))
    rw [show (n : Int) - (((0 : Nat) : Int) - ((0 : Nat) : Int)) = (n : Int) by omega]
    repeat (fail)
    ((refine Tr.step rfl ?_))
    refine Exec.appendMake rfl rfl (tysOk.get rfl) rfl (tysOk.get rfl) rfl (tysOk.get rfl) rfl rfl rfl h0 (by show n * 1 ≤ _; omega) (by omega) rfl (fun b c hc1 hc2 => ?_)
    repeat (first | ((with_reducible refine Tr.step rfl ?_); (first | ((with_reducible refine Knd.move ?_); (refine Exec.stab rfl (Stab.move rfl) rfl ?_)) | ((with_reducible refine Knd.assign ?_); (refine Exec.stab rfl (Stab.assign rfl) rfl ?_)) | ((with_reducible refine Knd.len ?_); ((refine Exec.stab rfl (Stab.len rfl (tysOk.get rfl) rfl) rfl ?_))) | ((with_reducible refine Knd.slice ?_); ((refine Exec.stab rfl (Stab.slice_h rfl rfl (tysOk.get rfl) rfl (tysOk.get rfl) (by omega) (by omega)) rfl ?_))))) | (with_reducible refine Tr.next ?_) | (with_reducible refine Tr.seq ?_) | (with_reducible refine Tr.region ?_) | (with_reducible refine Tr.nil ?_) | (with_reducible refine Tr.ret ?_))
    refine Tr.box_ownC 1 0 c (by repeat (first | exact Upd.here | apply Upd.there)) (by simp) (Nat.zero_le _) (by simpa [maxLen] using hc2) rfl (by intro u hu; simp at hu) ?_
    refine Tr.doneA (A' := [ownS 5 1 (some ⟨b, 0, none⟩) 0 c []]) (by first | exact .inl rfl | exact .inr rfl) rfl (by repeat (first | exact RVs.nil | (apply RVs.cons; (exact RV.tmp rfl)))) (Mem.le.refl _) ⟨fun _ h => h, fun h => h⟩ ⟨rfl, _, c, rfl, hc2, rfl⟩
  · have e : n = 0 := by omega
    subst e
    repeat (first | ((with_reducible refine Tr.step rfl ?_); (first | ((with_reducible refine Knd.move ?_); (refine Exec.stab rfl (Stab.move rfl) rfl ?_)) | ((with_reducible refine Knd.assign ?_); (refine Exec.stab rfl (Stab.assign rfl) rfl ?_)) | ((with_reducible refine Knd.len ?_); ((refine Exec.stab rfl (Stab.len rfl (tysOk.get rfl) rfl) rfl ?_))) | ((with_reducible refine Knd.cap ?_); (refine Exec.stab rfl (Stab.cap rfl (tysOk.get rfl) rfl) rfl ?_)) | ((with_reducible refine Knd.binOp ?_); (first | (refine Exec.stab rfl (Stab.subi rfl rfl (by omega)) rfl ?_) | (refine Exec.stab rfl (Stab.int rfl rfl rfl) rfl ?_))))) | (with_reducible refine Tr.next ?_) | (with_reducible refine Tr.seq ?_) | (with_reducible refine Tr.region ?_) | (with_reducible refine Tr.nil ?_) | (with_reducible refine Tr.skip ?_) | (with_reducible refine Tr.ret ?_) | (refine Tr.cond_f rfl (by first | (with_reducible assumption) | (with_reducible rfl) | (with_reducible exact (not_not_intro rfl)) | omega) ?_))
    refine Tr.own_nil 5 1 ?_
    refine Tr.doneA (A' := [ownS 5 1 none 0 0 []]) (by first | exact .inl rfl | exact .inr rfl) rfl (by repeat (first | exact RVs.nil | (apply RVs.cons; (exact RV.tmp rfl)))) (Mem.le.refl _) ⟨fun _ h => h, fun h => h⟩ ⟨rfl, none, 0, rfl, by omega, rfl⟩
/-- a slice of bytes as an element -/
def RB (M : Mem) (c : List Value) (x : List UInt8) : Prop := ∃ A k, c = [.slice A x.length k] ∧ BSl M (.slice A x.length k) x
theorem RB.mono (M M' : Mem) (c : List Value) (x : List UInt8) (hm : Mem.le M M') (h : RB M c x) : RB M' c x := let ⟨A, k, h1, h2⟩ := h; ⟨A, k, h1, h2.mono hm⟩
def flen (l : List (List UInt8)) (i : Nat) : Nat := ((l.take i).flatten).length
theorem flat_take {l : List (List UInt8)} {i : Nat} {x : List UInt8} (h : l[i]? = some x) : (l.take (i + 1)).flatten = (l.take i).flatten ++ x := by
  rw [List.take_add_one, h]; simp
theorem flat_le (l : List (List UInt8)) (i : Nat) : ((l.take i).flatten).length ≤ l.flatten.length := by
  have : l.flatten = (l.take i).flatten ++ (l.drop i).flatten := by rw [← List.flatten_append, List.take_append_drop]
  rw [this]; simp
set_option maxHeartbeats 4000000 in
theorem concat_fn (M : Mem) (A : Option Addr) (c : Nat) (l : List (List UInt8)) (hl : SlOf 1 RB M (.slice A l.length c) l) (hb : l.flatten.length ≤ 100000000000) :
    Fn0 Tryd.prog 31 [.slice A l.length c] M (fun r M' => ∃ B k, r = .slice B l.flatten.length k ∧ BSl M' (.slice B l.flatten.length k) l.flatten) := by
  have hll := hl.len_le
  refine Fn.intro Tryd.func31 rfl rfl Tryd.ntmps31 rfl fun E F => ?_
  have hw : ∃ ws : Nat → List UInt8, ∀ i, ws i = (l.take i).flatten := ⟨_, fun _ => rfl⟩
  obtain ⟨ws, hws⟩ := hw
  have hwl : ∀ i, (ws i).length ≤ 100000000000 := fun i => by rw [hws]; exact Nat.le_trans (flat_le l i) hb
  have hw0 : ws 0 = [] := by rw [hws]; rfl
  repeat (first | ((with_reducible refine Tr.step rfl ?_); (first | ((with_reducible refine Knd.move ?_); (refine Exec.stab rfl (Stab.move rfl) rfl ?_)) | ((with_reducible refine Knd.assign ?_); (refine Exec.stab rfl (Stab.assign rfl) rfl ?_)) | ((with_reducible refine Knd.len ?_); ((refine Exec.stab rfl (Stab.len rfl (tysOk.get rfl) rfl) rfl ?_))))) | (with_reducible refine Tr.next ?_) | (with_reducible refine Tr.seq ?_) | (with_reducible refine Tr.region ?_) | (with_reducible refine Tr.nil ?_) | (with_reducible refine Tr.block ?_))
  refine Tr.loop (α := Nat) (fun i => ⟨36, [(11, .int .i64 i), (10, .int .i64 l.length), (9, .slice A l.length c), (3, .int .i64 ((ws i).length : Int)), (2, .slice none 0 0), (0, .slice A l.length c)], [], M, [] ++ F⟩) (fun i => i ≤ l.length) (fun i => l.length - i) 0 (Nat.zero_le _) (by rw [hw0]; exact (holds_sub (by repeat (first | exact SubFr.nil | refine SubFr.cons rfl ?_)) (by repeat (first | exact DropL.refl | apply DropL.skip)))) (fun i hi => ?_)
  have hi1 := hwl i
  have hi2 := hwl (i + 1)
  by_cases hlt : i < l.length
  · obtain ⟨x, hx⟩ := get_of_lt hlt
    obtain ⟨hA1, ch1, hat1, A1, k1, rfl, hxb⟩ := hl.elem hx
    have hxl : (ws (i + 1)).length = (ws i).length + x.length := by rw [hws, hws, flat_take hx, List.length_append]
    repeat (first | ((with_reducible refine Tr.step rfl ?_); (first | ((with_reducible refine Knd.move ?_); (refine Exec.stab rfl (Stab.move rfl) rfl ?_)) | ((with_reducible refine Knd.assign ?_); (refine Exec.stab rfl (Stab.assign rfl) rfl ?_)) | ((with_reducible refine Knd.load ?_); ((refine Exec.stab rfl (Stab.loadM rfl (tysOk.get rfl) rfl (by assumption)) rfl ?_))) | ((with_reducible refine Knd.len ?_); ((refine Exec.stab rfl (Stab.len rfl (tysOk.get rfl) rfl) rfl ?_))) | ((with_reducible refine Knd.binOp ?_); (first | (refine Exec.stab rfl (Stab.addi rfl rfl (by omega)) rfl ?_) | (refine Exec.stab rfl (Stab.int rfl rfl rfl) rfl ?_))) | ((with_reducible refine Knd.indexAddr ?_); ((refine Exec.stab rfl (Stab.indexAddr rfl rfl (tysOk.get rfl) rfl (tysOk.get rfl) rfl (by omega) (by omega) (by first | rfl | assumption)) rfl ?_))))) | (with_reducible refine Tr.next ?_) | (with_reducible refine Tr.seq ?_) | (with_reducible refine Tr.region ?_) | (with_reducible refine Tr.nil ?_) | (with_reducible refine Tr.skip ?_) | (with_reducible refine Tr.block ?_) | (with_reducible refine Tr.in_normal ?_) | (refine Tr.cond_t rfl (by first | (with_reducible assumption) | (with_reducible rfl) | (with_reducible exact (not_not_intro rfl)) | omega) ?_) | (refine Tr.cond_f rfl (by first | (with_reducible assumption) | (with_reducible rfl) | (with_reducible exact (not_not_intro rfl)) | omega) ?_))
    rw [show ((ws i).length : Int) + (x.length : Int) = ((ws (i + 1)).length : Int) by omega]
    repeat (fail)
    refine Tr.again (i + 1) (by omega) (by omega) (holds_sub (by repeat (first | exact SubFr.nil | refine SubFr.cons rfl ?_)) (by repeat (first | exact DropL.refl | apply DropL.skip)))
  have e : i = l.length := by omega
  subst e
  have hfull : ws l.length = l.flatten := by rw [hws, List.take_length]
  repeat (first | ((with_reducible refine Tr.step rfl ?_); (first | ((with_reducible refine Knd.move ?_); (refine Exec.stab rfl (Stab.move rfl) rfl ?_)) | ((with_reducible refine Knd.binOp ?_); ((refine Exec.stab rfl (Stab.int rfl rfl rfl) rfl ?_))))) | (with_reducible refine Tr.next ?_) | (with_reducible refine Tr.seq ?_) | (with_reducible refine Tr.region ?_) | (with_reducible refine Tr.nil ?_) | (with_reducible refine Tr.exit ?_) | (with_reducible refine Tr.then_exit ?_) | ((with_reducible refine Tr.in_exit ?_ ?_); (exact rfl)) | (refine Tr.cond_f rfl (by first | (with_reducible assumption) | (with_reducible rfl) | (with_reducible exact (not_not_intro rfl)) | omega) ?_))
  ((refine Tr.step rfl ?_))
  refine Exec.call (A := []) rfl (grow_fn M (ws l.length).length (by omega)) (List.Perm.refl _) rfl ?_
  rintro _ _ _ - ⟨rfl, A4, c4, rfl, hc4, rfl⟩
  repeat (first | ((with_reducible refine Tr.step rfl ?_); (first | ((with_reducible refine Knd.move ?_); (refine Exec.stab rfl (Stab.move rfl) rfl ?_)) | ((with_reducible refine Knd.assign ?_); (refine Exec.stab rfl (Stab.assign rfl) rfl ?_)) | ((with_reducible refine Knd.len ?_); ((refine Exec.stab rfl (Stab.len rfl (tysOk.get rfl) rfl) rfl ?_))))) | (with_reducible refine Tr.next ?_) | (with_reducible refine Tr.seq ?_) | (with_reducible refine Tr.region ?_) | (with_reducible refine Tr.nil ?_) | (with_reducible refine Tr.block ?_))
  refine Tr.loop (α := Nat × Option Addr × Nat) (fun y => ⟨36, [(27, .int .i64 y.1), (26, .int .i64 l.length), (25, .slice A l.length c), (6, .slice y.2.1 (ws y.1).length y.2.2), (2, .slice none 0 0)], [], M, ownS 5 1 y.2.1 (ws y.1).length y.2.2 (byteV (ws y.1)) :: ([] ++ F)⟩)
    (fun y => y.1 ≤ l.length ∧ y.2.2 ≤ 9223372036854775807) (fun y => l.length - y.1) (0, A4, c4) ⟨Nat.zero_le _, hc4⟩ (by rw [hw0]; exact (holds_sub (by repeat (first | exact SubFr.nil | refine SubFr.cons rfl ?_)) (by repeat (first | exact DropL.refl | apply DropL.skip)))) (fun y hy => ?_)
  clear hi hlt hi1 hi2
  obtain ⟨i, A5, c5⟩ := y
  obtain ⟨hi, hc5⟩ := hy
  simp only at hi hc5
  dsimp only
  have hi1 := hwl i
  have hi2 := hwl (i + 1)
  by_cases hlt : i < l.length
  · obtain ⟨x, hx⟩ := get_of_lt hlt
    obtain ⟨hA1, ch1, hat1, A1, k1, rfl, hxb⟩ := hl.elem hx
    have hxx : ws i ++ x = ws (i + 1) := by rw [hws, hws, flat_take hx]
    have hxl : (ws (i + 1)).length = (ws i).length + x.length := by rw [← hxx, List.length_append]
    have hcap := hxb.cap
    repeat (first | ((with_reducible refine Tr.step rfl ?_); (first | ((with_reducible refine Knd.move ?_); (refine Exec.stab rfl (Stab.move rfl) rfl ?_)) | ((with_reducible refine Knd.assign ?_); (refine Exec.stab rfl (Stab.assign rfl) rfl ?_)) | ((with_reducible refine Knd.load ?_); ((refine Exec.stab rfl (Stab.loadM rfl (tysOk.get rfl) rfl (by assumption)) rfl ?_))) | ((with_reducible refine Knd.binOp ?_); ((refine Exec.stab rfl (Stab.int rfl rfl rfl) rfl ?_))) | ((with_reducible refine Knd.indexAddr ?_); ((refine Exec.stab rfl (Stab.indexAddr rfl rfl (tysOk.get rfl) rfl (tysOk.get rfl) rfl (by omega) (by omega) (by first | rfl | assumption)) rfl ?_))))) | (with_reducible refine Tr.next ?_) | (with_reducible refine Tr.seq ?_) | (with_reducible refine Tr.region ?_) | (with_reducible refine Tr.nil ?_) | (with_reducible refine Tr.skip ?_) | (with_reducible refine Tr.block ?_) | (refine Tr.cond_t rfl (by first | (with_reducible assumption) | (with_reducible rfl) | (with_reducible exact (not_not_intro rfl)) | omega) ?_))
    ((refine Tr.step rfl ?_))
    refine Exec.append (news := byteV x) rfl rfl (tysOk.get rfl) rfl (tysOk.get rfl) rfl rfl rfl rfl (by repeat (first | exact Del.here | apply Del.there)) (Src.row hcap.2.2.2) (by simp) (byteV_one _) (by omega) (by omega) rfl (fun A6 c6 hc6 => ?_)
    rw [← byteV_append, hxx, ← hxl]
    repeat (first | ((with_reducible refine Tr.step rfl ?_); (first | ((with_reducible refine Knd.move ?_); (refine Exec.stab rfl (Stab.move rfl) rfl ?_)) | ((with_reducible refine Knd.assign ?_); (refine Exec.stab rfl (Stab.assign rfl) rfl ?_)) | ((with_reducible refine Knd.binOp ?_); ((refine Exec.stab rfl (Stab.addi rfl rfl (by omega)) rfl ?_))))) | (with_reducible refine Tr.next ?_) | (with_reducible refine Tr.region ?_) | (with_reducible refine Tr.nil ?_) | (with_reducible refine Tr.in_normal ?_))
    refine Tr.again (i + 1, A6, c6) ⟨by simp only; omega, hc6⟩ (by simp only; omega) (holds_sub (by repeat (first | exact SubFr.nil | refine SubFr.cons rfl ?_)) (by repeat (first | exact DropL.refl | apply DropL.skip)))
  have e : i = l.length := by omega
  subst e
  rw [hfull]
  repeat (first | ((with_reducible refine Tr.step rfl ?_); (first | ((with_reducible refine Knd.move ?_); (refine Exec.stab rfl (Stab.move rfl) rfl ?_)) | ((with_reducible refine Knd.assign ?_); (refine Exec.stab rfl (Stab.assign rfl) rfl ?_)) | ((with_reducible refine Knd.binOp ?_); ((refine Exec.stab rfl (Stab.int rfl rfl rfl) rfl ?_))))) | (with_reducible refine Tr.next ?_) | (with_reducible refine Tr.seq ?_) | (with_reducible refine Tr.region ?_) | (with_reducible refine Tr.nil ?_) | (with_reducible refine Tr.exit ?_) | (with_reducible refine Tr.ret ?_) | (with_reducible refine Tr.then_exit ?_) | ((with_reducible refine Tr.in_exit ?_ ?_); (exact rfl)) | (refine Tr.cond_f rfl (by first | (with_reducible assumption) | (with_reducible rfl) | (with_reducible exact (not_not_intro rfl)) | omega) ?_))
  refine Tr.publish (r := ownS 5 1 _ _ _ _) (by repeat (first | exact Del.here | apply Del.there)) (fun M1 hm1 hok => ?_)
  (refine Tr.done (by first | exact .inl rfl | exact .inr rfl) rfl (by repeat (first | exact RVs.nil | (apply RVs.cons; (exact RV.tmp rfl)))) (by first | exact Mem.le.refl _ | assumption) (by exact ⟨[], rfl⟩) ⟨rfl, ?_⟩)
  exact ⟨A5, c5, rfl, BSl.ofOwn hok rfl hc5⟩
/-- a hash with a tag -/
def tagF (t b : List UInt8) : List UInt8 := sumF (sumF t ++ b)
theorem tagF_length (t b : List UInt8) : (tagF t b).length = 32 := sumF_length _
theorem two_bytes {M : Mem} {b n m : Nat} {A B : Option Addr} {x y : List UInt8} {c k : Nat} (hx : BSl M (.slice A n c) x) (hy : BSl M (.slice B m k) y) (h : (box b 22 [.slice A n c, .slice B m k]).ok M) : SlOf 1 RB M (.slice (some ⟨b, 0, none⟩) [x, y].length [x, y].length) [x, y] := by
  obtain rfl := hx.len
  obtain rfl := hy.len
  refine SlOf.ofBox h (by intro u hu; simp at hu; rcases hu with rfl | rfl <;> rfl) (by simp) ⟨by simp, fun i z hz => ?_⟩
  match i, hz with
  | 0, hz => cases hz; exact ⟨A, c, rfl, hx⟩
  | 1, hz => cases hz; exact ⟨B, k, rfl, hy⟩
set_option maxHeartbeats 4000000 in
theorem tagged_fn (M : Mem) (hK : At M ⟨0, 0, none⟩ (wV Kw)) (t : List UInt8) (ht : t.length ≤ 100000000) (A : Option Addr) (c : Nat) (bs : List UInt8) (hb : BSl M (.slice A bs.length c) bs) (hl : bs.length ≤ 100000000) :
    Fn0 Tryd.prog 14 [.string ⟨t.toArray⟩, .slice A bs.length c] M (fun r M' => r = .agg (byteV (tagF t bs)).toArray) := by
  refine Fn.intro Tryd.func14 rfl rfl Tryd.ntmps14 rfl fun E F => ?_
  repeat (first | ((with_reducible refine Tr.step rfl ?_); (first | ((with_reducible refine Knd.move ?_); (refine Exec.stab rfl (Stab.move rfl) rfl ?_)) | ((with_reducible refine Knd.alloc ?_); (first | (refine Exec.alloc (tysOk.get rfl) rfl rfl (fun b => ?_)) | (refine Exec.alloc1 (tysOk.get rfl) rfl rfl rfl (fun b => ?_)))))) | (with_reducible refine Tr.next ?_) | (with_reducible refine Tr.seq ?_) | (with_reducible refine Tr.region ?_) | (with_reducible refine Tr.nil ?_))
  generalize hb4 : b = b4
  ((refine Tr.step rfl ?_))
  refine Exec.strBytes (l := t) rfl (tysOk.get rfl) (tysOk.get rfl) rfl (tysOk.get rfl) rfl (by omega) rfl (fun b9 c9 M1 hm1 hb9 => ?_)
  have hs := sum_fn M1 (hK.mono hm1) _ _ t hb9 (by omega)
  have hsl : (byteV (sumF t)).length = 32 := by simpa using sumF_length t
  have hsl' := sumF_length t
  unfold tagF
  generalize hT : sumF t = T at hs hsl hsl' ⊢
  repeat (fail)
  ((refine Tr.step rfl ?_)); refine Exec.call0 rfl (hs) rfl ?_
  rintro _ M2 hm2 rfl
  repeat (first | ((with_reducible refine Tr.step rfl ?_); (first | ((with_reducible refine Knd.move ?_); (refine Exec.stab rfl (Stab.move rfl) rfl ?_)) | ((with_reducible refine Knd.store ?_); ((refine Exec.storeW rfl rfl (tysOk.get rfl) (by repeat (first | exact Upd.here | apply Upd.there)) (by first | rfl | assumption) (by first | rfl | assumption) (by first | exact AllOne.bytes _ | exact AllOne.words _ | exact (by repeat (first | exact AllOne.nil | refine AllOne.cons (by first | rfl | assumption) ?_))) ?_))) | ((with_reducible refine Knd.alloc ?_); (first | (refine Exec.alloc (tysOk.get rfl) rfl rfl (fun b => ?_)) | (refine Exec.alloc1 (tysOk.get rfl) rfl rfl rfl (fun b => ?_)))) | ((with_reducible refine Knd.slice ?_); ((refine Exec.stab rfl (Stab.sliceArr rfl (tysOk.get rfl) rfl (tysOk.get rfl) rfl) rfl ?_))) | ((with_reducible refine Knd.buildSlice ?_); (refine Exec.buildSlice (tysOk.get rfl) rfl (tysOk.get rfl) rfl rfl rfl rfl rfl (by repeat (first | exact BuildP.nil | ((apply BuildP.one); (rfl); (rfl); (first | rfl | assumption); (repeat (first | exact SetL.z | apply SetL.s))))) rfl (fun b => ?_))))) | (with_reducible refine Tr.next ?_) | (with_reducible refine Tr.seq ?_) | (with_reducible refine Tr.region ?_) | (with_reducible refine Tr.nil ?_))
  rename_i b5
  refine Tr.publish (r := box b5 26 _) (by repeat (first | exact Del.here | apply Del.there)) (fun M3 hm3 hok3 => ?_)
  have hbt := BSl.ofBox hok3 (by omega)
  rw [hsl'] at hbt
  have hm03 := hm1.trans (hm2.trans hm3)
  have hb3 := hb.mono hm03
  refine Tr.publish (r := box _ 22 _) (by repeat (first | exact Del.here | apply Del.there)) (fun M4 hm4 hok4 => ?_)
  have hls := two_bytes (hbt.mono hm4) (hb3.mono hm4) hok4
  ((refine Tr.step rfl ?_)); refine Exec.call0 rfl (concat_fn M4 _ _ [T, bs] hls (by simp; omega)) rfl ?_
  rintro _ M5 hm5 ⟨B6, k6, rfl, hb6⟩
  rw [show [T, bs].flatten = T ++ bs by simp] at hb6 ⊢
  have hm05 := hm03.trans (hm4.trans hm5)
  have hs2 := sum_fn M5 (hK.mono hm05) B6 k6 (T ++ bs) hb6 (by simp; omega)
  have hrl : (byteV (sumF (T ++ bs))).length = 32 := by simpa using sumF_length (T ++ bs)
  generalize hR : sumF (T ++ bs) = R at hs2 hrl ⊢
  ((refine Tr.step rfl ?_)); refine Exec.call0 rfl (hs2) rfl ?_
  rintro _ M6 hm6 rfl
  have hm06 := hm05.trans hm6
  repeat (first | ((with_reducible refine Tr.step rfl ?_); (((with_reducible refine Knd.store ?_); ((refine Exec.storeW rfl rfl (tysOk.get rfl) (by repeat (first | exact Upd.here | apply Upd.there)) (by first | rfl | assumption) (by first | rfl | assumption) (by first | exact AllOne.bytes _ | exact AllOne.words _ | exact (by repeat (first | exact AllOne.nil | refine AllOne.cons (by first | rfl | assumption) ?_))) ?_))))) | (with_reducible refine Tr.next ?_) | (with_reducible refine Tr.nil ?_) | (with_reducible refine Tr.ret ?_))
  (refine Tr.done (by first | exact .inl rfl | exact .inr rfl) rfl (by repeat (first | exact RVs.nil | (apply RVs.cons; (exact RV.cellW (by rfl) (tysOk.get (by rfl)) (by rfl) (by repeat (first | exact Has.here | apply Has.there)) (by first | rfl | assumption))))) (by first | exact Mem.le.refl _ | assumption) (by exact ⟨[_], rfl⟩) ⟨rfl, ?_⟩)
  rfl
theorem BSl.of32 {M : Mem} {b t : Nat} {d : List UInt8} (h : (box b t (byteV d)).ok M) (hd : d.length = 32) : BSl M (.slice (some ⟨b, 0, none⟩) 32 32) d := by
  have := BSl.ofBox h (by omega)
  rwa [hd] at this
set_option maxHeartbeats 4000000 in
theorem node_fn (M : Mem) (hK : At M ⟨0, 0, none⟩ (wV Kw)) (x y : List UInt8) (hx : x.length = 32) (hy : y.length = 32) :
    Fn0 Tryd.prog 33 [.agg (byteV x).toArray, .agg (byteV y).toArray] M (fun r M' => r = .agg (byteV (tagF [110, 111, 100, 101] (x ++ y))).toArray) := by
  refine Fn.intro Tryd.func33 rfl rfl Tryd.ntmps33 rfl fun E F => ?_
  repeat (first | ((with_reducible refine Tr.step rfl ?_); (first | ((with_reducible refine Knd.box ?_); (first | (refine Exec.box rfl rfl (fun b => ?_)) | (refine Exec.box1 rfl (by first | rfl | assumption) rfl (fun b => ?_)))) | ((with_reducible refine Knd.alloc ?_); (first | (refine Exec.alloc (tysOk.get rfl) rfl rfl (fun b => ?_)) | (refine Exec.alloc1 (tysOk.get rfl) rfl rfl rfl (fun b => ?_)))))) | (with_reducible refine Tr.next ?_) | (with_reducible refine Tr.seq ?_) | (with_reducible refine Tr.region ?_) | (with_reducible refine Tr.nil ?_))
  generalize hb4 : b = b4
  rename_i b2 b3
  refine Tr.publish (r := box b3 26 _) (by repeat (first | exact Del.here | apply Del.there)) (fun M1 hm1 hok1 => ?_)
  refine Tr.publish (r := box b2 26 _) (by repeat (first | exact Del.here | apply Del.there)) (fun M2 hm2 hok2 => ?_)
  have h1 := (BSl.of32 hok1 hy).mono hm2
  have h2 := BSl.of32 hok2 hx
  (((apply Tr.draw); (kernel_rfl)); (refine TrA.take 0 (by kernel_rfl) rfl (by kernel_rfl) (by first | exact fun _ _ _ h => h | exact fun _ _ _ h => nomatch h.1) (by first | exact fun _ h => h | (intro r h; cases h; done) | exact (Sub.mem (by repeat (first | exact Sub.refl | apply Sub.cons)))) rfl (by exact Stab.sliceArr rfl (tysOk.get rfl) rfl (tysOk.get rfl) rfl) rfl rfl ?_); (refine TrA.take 1 (by kernel_rfl) rfl (by kernel_rfl) (by first | exact fun _ _ _ h => h | exact fun _ _ _ h => nomatch h.1) (by first | exact fun _ h => h | (intro r h; cases h; done) | exact (Sub.mem (by repeat (first | exact Sub.refl | apply Sub.cons)))) rfl (by exact Stab.sliceArr rfl (tysOk.get rfl) rfl (tysOk.get rfl) rfl) rfl rfl ?_); (refine TrA.eff 2 rfl (by kernel_rfl) (by first | exact .inl rfl | exact .inr ⟨_, _, _, rfl, rfl, rfl⟩) ?_); (((refine Knd.buildSlice ?_); (refine Exec.buildSlice (tysOk.get rfl) rfl (tysOk.get rfl) rfl rfl rfl rfl rfl (by repeat (first | exact BuildP.nil | ((apply BuildP.one); (rfl); (rfl); (first | rfl | assumption); (repeat (first | exact SetL.z | apply SetL.s))))) rfl (fun b => ?_)))); (refine ⟨(by first | exact Mem.le.refl _ | assumption), (by first | exact fun _ h => h | (intro r h; cases h; done) | exact (Sub.mem (by repeat (first | exact Sub.refl | apply Sub.cons)))), ?_⟩))
  refine TrA.publish (x := box _ 22 _) (by repeat (first | exact Del.here | apply Del.there)) (fun M3 hm3 hok3 => ?_)
  have hls := two_bytes (h2.mono hm3) (h1.mono hm3) hok3
  have hm03 := hm1.trans (hm2.trans hm3)
  ((refine TrA.eff 3 rfl (by kernel_rfl) (by first | exact .inl rfl | exact .inr ⟨_, _, _, rfl, rfl, rfl⟩) ?_))
  refine Exec.call0 rfl (concat_fn M3 _ _ [x, y] hls (by simp; omega)) rfl ?_
  rintro _ M4 hm4 ⟨B6, k6, rfl, hb6⟩
  refine ⟨hm4, (by first | exact fun _ h => h | (intro r h; cases h; done) | exact (Sub.mem (by repeat (first | exact Sub.refl | apply Sub.cons)))), ?_⟩
  rw [show [x, y].flatten = x ++ y by simp] at hb6 ⊢
  have hm04 := hm03.trans hm4
  have ht := tagged_fn M4 (hK.mono hm04) [110, 111, 100, 101] (by simp) B6 k6 (x ++ y) hb6 (by simp; omega)
  have hrl : (byteV (tagF [110, 111, 100, 101] (x ++ y))).length = 32 := by simpa using tagF_length [110, 111, 100, 101] (x ++ y)
  generalize hR : tagF [110, 111, 100, 101] (x ++ y) = R at ht hrl ⊢
  ((refine TrA.eff 4 rfl (by kernel_rfl) (by first | exact .inl rfl | exact .inr ⟨_, _, _, rfl, rfl, rfl⟩) ?_))
  refine Exec.call0 rfl ht rfl ?_
  rintro _ M5 hm5 rfl
  refine ⟨hm5, (by first | exact fun _ h => h | (intro r h; cases h; done) | exact (Sub.mem (by repeat (first | exact Sub.refl | apply Sub.cons)))), ?_⟩
  have hm05 := hm04.trans hm5
  ((refine TrA.effD 5 rfl (by kernel_rfl) (by kernel_rfl) (by first | exact .inl rfl | exact .inr ⟨_, _, _, rfl, rfl, rfl⟩) ?_); (((refine Knd.store ?_); ((refine Exec.storeW rfl rfl (tysOk.get rfl) (by repeat (first | exact Upd.here | apply Upd.there)) (by first | rfl | assumption) (by first | rfl | assumption) (by first | exact AllOne.bytes _ | exact AllOne.words _ | exact (by repeat (first | exact AllOne.nil | refine AllOne.cons (by first | rfl | assumption) ?_))) ?_)))); (refine ⟨_, fun _ h => h, ?_⟩); (refine TrA.done (by kernel_rfl) ?_))
  repeat (first | (with_reducible refine Tr.next ?_) | (with_reducible refine Tr.ret ?_))
  (refine Tr.done (by first | exact .inl rfl | exact .inr rfl) rfl (by repeat (first | exact RVs.nil | (apply RVs.cons; (exact RV.cellW (by rfl) (tysOk.get (by rfl)) (by rfl) (by repeat (first | exact Has.here | apply Has.there)) (by first | rfl | assumption))))) (by first | exact Mem.le.refl _ | assumption) (by exact ⟨[_], rfl⟩) ⟨rfl, ?_⟩)
  rfl
set_option maxHeartbeats 4000000 in
theorem chain_fn (M : Mem) (hK : At M ⟨0, 0, none⟩ (wV Kw)) (x y : List UInt8) (hx : x.length = 32) (hy : y.length = 32) :
    Fn0 Tryd.prog 25 [.agg (byteV x).toArray, .agg (byteV y).toArray] M (fun r M' => r = .agg (byteV (tagF [99, 104, 97, 105, 110] (x ++ y))).toArray) := by
  refine Fn.intro Tryd.func25 rfl rfl Tryd.ntmps25 rfl fun E F => ?_
  repeat (first | ((with_reducible refine Tr.step rfl ?_); (first | ((with_reducible refine Knd.box ?_); (first | (refine Exec.box rfl rfl (fun b => ?_)) | (refine Exec.box1 rfl (by first | rfl | assumption) rfl (fun b => ?_)))) | ((with_reducible refine Knd.alloc ?_); (first | (refine Exec.alloc (tysOk.get rfl) rfl rfl (fun b => ?_)) | (refine Exec.alloc1 (tysOk.get rfl) rfl rfl rfl (fun b => ?_)))))) | (with_reducible refine Tr.next ?_) | (with_reducible refine Tr.seq ?_) | (with_reducible refine Tr.region ?_) | (with_reducible refine Tr.nil ?_))
  generalize hb4 : b = b4
  rename_i b2 b3
  refine Tr.publish (r := box b3 26 _) (by repeat (first | exact Del.here | apply Del.there)) (fun M1 hm1 hok1 => ?_)
  refine Tr.publish (r := box b2 26 _) (by repeat (first | exact Del.here | apply Del.there)) (fun M2 hm2 hok2 => ?_)
  have h1 := (BSl.of32 hok1 hy).mono hm2
  have h2 := BSl.of32 hok2 hx
  (((apply Tr.draw); (kernel_rfl)); (refine TrA.take 0 (by kernel_rfl) rfl (by kernel_rfl) (by first | exact fun _ _ _ h => h | exact fun _ _ _ h => nomatch h.1) (by first | exact fun _ h => h | (intro r h; cases h; done) | exact (Sub.mem (by repeat (first | exact Sub.refl | apply Sub.cons)))) rfl (by exact Stab.sliceArr rfl (tysOk.get rfl) rfl (tysOk.get rfl) rfl) rfl rfl ?_); (refine TrA.take 1 (by kernel_rfl) rfl (by kernel_rfl) (by first | exact fun _ _ _ h => h | exact fun _ _ _ h => nomatch h.1) (by first | exact fun _ h => h | (intro r h; cases h; done) | exact (Sub.mem (by repeat (first | exact Sub.refl | apply Sub.cons)))) rfl (by exact Stab.sliceArr rfl (tysOk.get rfl) rfl (tysOk.get rfl) rfl) rfl rfl ?_); (refine TrA.eff 2 rfl (by kernel_rfl) (by first | exact .inl rfl | exact .inr ⟨_, _, _, rfl, rfl, rfl⟩) ?_); (((refine Knd.buildSlice ?_); (refine Exec.buildSlice (tysOk.get rfl) rfl (tysOk.get rfl) rfl rfl rfl rfl rfl (by repeat (first | exact BuildP.nil | ((apply BuildP.one); (rfl); (rfl); (first | rfl | assumption); (repeat (first | exact SetL.z | apply SetL.s))))) rfl (fun b => ?_)))); (refine ⟨(by first | exact Mem.le.refl _ | assumption), (by first | exact fun _ h => h | (intro r h; cases h; done) | exact (Sub.mem (by repeat (first | exact Sub.refl | apply Sub.cons)))), ?_⟩))
  refine TrA.publish (x := box _ 22 _) (by repeat (first | exact Del.here | apply Del.there)) (fun M3 hm3 hok3 => ?_)
  have hls := two_bytes (h2.mono hm3) (h1.mono hm3) hok3
  have hm03 := hm1.trans (hm2.trans hm3)
  ((refine TrA.eff 3 rfl (by kernel_rfl) (by first | exact .inl rfl | exact .inr ⟨_, _, _, rfl, rfl, rfl⟩) ?_))
  refine Exec.call0 rfl (concat_fn M3 _ _ [x, y] hls (by simp; omega)) rfl ?_
  rintro _ M4 hm4 ⟨B6, k6, rfl, hb6⟩
  refine ⟨hm4, (by first | exact fun _ h => h | (intro r h; cases h; done) | exact (Sub.mem (by repeat (first | exact Sub.refl | apply Sub.cons)))), ?_⟩
  rw [show [x, y].flatten = x ++ y by simp] at hb6 ⊢
  have hm04 := hm03.trans hm4
  have ht := tagged_fn M4 (hK.mono hm04) [99, 104, 97, 105, 110] (by simp) B6 k6 (x ++ y) hb6 (by simp; omega)
  have hrl : (byteV (tagF [99, 104, 97, 105, 110] (x ++ y))).length = 32 := by simpa using tagF_length [99, 104, 97, 105, 110] (x ++ y)
  generalize hR : tagF [99, 104, 97, 105, 110] (x ++ y) = R at ht hrl ⊢
  ((refine TrA.eff 4 rfl (by kernel_rfl) (by first | exact .inl rfl | exact .inr ⟨_, _, _, rfl, rfl, rfl⟩) ?_))
  refine Exec.call0 rfl ht rfl ?_
  rintro _ M5 hm5 rfl
  refine ⟨hm5, (by first | exact fun _ h => h | (intro r h; cases h; done) | exact (Sub.mem (by repeat (first | exact Sub.refl | apply Sub.cons)))), ?_⟩
  have hm05 := hm04.trans hm5
  ((refine TrA.effD 5 rfl (by kernel_rfl) (by kernel_rfl) (by first | exact .inl rfl | exact .inr ⟨_, _, _, rfl, rfl, rfl⟩) ?_); (((refine Knd.store ?_); ((refine Exec.storeW rfl rfl (tysOk.get rfl) (by repeat (first | exact Upd.here | apply Upd.there)) (by first | rfl | assumption) (by first | rfl | assumption) (by first | exact AllOne.bytes _ | exact AllOne.words _ | exact (by repeat (first | exact AllOne.nil | refine AllOne.cons (by first | rfl | assumption) ?_))) ?_)))); (refine ⟨_, fun _ h => h, ?_⟩); (refine TrA.done (by kernel_rfl) ?_))
  repeat (first | (with_reducible refine Tr.next ?_) | (with_reducible refine Tr.ret ?_))
  (refine Tr.done (by first | exact .inl rfl | exact .inr rfl) rfl (by repeat (first | exact RVs.nil | (apply RVs.cons; (exact RV.cellW (by rfl) (tysOk.get (by rfl)) (by rfl) (by repeat (first | exact Has.here | apply Has.there)) (by first | rfl | assumption))))) (by first | exact Mem.le.refl _ | assumption) (by exact ⟨[_], rfl⟩) ⟨rfl, ?_⟩)
  rfl
end Go.Proofs.YtoaepelmhmddmaaDoor
