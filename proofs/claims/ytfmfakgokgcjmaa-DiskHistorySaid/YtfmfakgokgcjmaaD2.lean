/-
  The disk: the contracts of sector, double, Clip, Clone, the reference's Check and Stop, and New.
  Conditions: none.
-/
import Derived.Test.YtfmfakgokgcjmaaD1
namespace Go.Proofs.Ytfmfakgokgcjmaa
open Go Bf
attribute [local irreducible] Tr Exec Stab HasTy Go.Addr.add IntKind.wrap

def pad (b : List UInt8) : List UInt8 := b ++ List.replicate (128 - b.length) 0
theorem pad_length {b : List UInt8} (h : b.length ≤ 128) : (pad b).length = 128 := by simp [pad]; omega
theorem pad_full {b : List UInt8} (h : b.length = 128) : pad b = b := by simp [pad, h]
theorem byteV_replicate (n : Nat) : List.replicate n (Value.int .u8 0) = byteV (List.replicate n 0) := by simp [byteV]
theorem byteV_append (a b : List UInt8) : byteV (a ++ b) = byteV a ++ byteV b := by simp [byteV]
theorem BSl.of_box {M : Mem} {b t : Nat} {bs : List UInt8} (h : (box b t (byteV bs)).ok M) (hl : bs.length ≤ 9223372036854775807) : BSl M (.slice (some ⟨b, 0, none⟩) bs.length bs.length) bs := by
  have hr := Row.of_box (n := bs.length) (sz := 1) h (by simp) (fun u hu => byteV_one bs u (List.mem_of_mem_take hu))
  have e : (byteV bs).take (bs.length * 1) = byteV bs := by rw [List.take_of_length_le]; simp
  rw [e] at hr
  exact ⟨_, _, rfl, Nat.le_refl _, hl, fun h => (by cases h), hr⟩

set_option maxHeartbeats 1000000 in
theorem sector_fn (M : Mem) (A : Option Addr) (c : Nat) (bs : List UInt8) (h : BSl M (.slice A bs.length c) bs) (hl : bs.length ≤ 128) :
    Fn0 Try.prog 32 [.slice A bs.length c] M (fun r M' => ∃ A' k', r = .slice A' (pad bs).length k' ∧ BSl M' (.slice A' (pad bs).length k') (pad bs)) := by
  obtain ⟨A', c', e, h2, h3, h4, h5⟩ := h
  cases e
  refine Fn.intro Try.func32 rfl rfl Try.ntmps32 rfl fun E F => ?_
  repeat (first | ((with_reducible refine Tr.step rfl ?_); (first | ((with_reducible refine Knd.move ?_); (refine Exec.stab rfl (Stab.move rfl) rfl ?_)) | ((with_reducible refine Knd.assign ?_); (refine Exec.stab rfl (Stab.assign rfl) rfl ?_)) | ((with_reducible refine Knd.makeSlice ?_); (refine Exec.make rfl rfl (tysOk.get rfl) rfl (tysOk.get rfl) rfl rfl rfl (by omega) (by omega) (by first | omega | (simp; done) | (simp; omega)) (by omega) rfl (fun b => ?_))))) | (with_reducible refine Tr.next ?_) | (with_reducible refine Tr.seq ?_) | (with_reducible refine Tr.region ?_) | (with_reducible refine Tr.nil ?_))
  ((refine Tr.step rfl ?_))
  refine Exec.copy (news := byteV bs) rfl rfl (tysOk.get rfl) rfl (tysOk.get rfl) rfl (Src.row_min h5) (by simp; omega) (byteV_one bs) (by simp; omega) Upd.here rfl ?_
  repeat (first | ((with_reducible refine Tr.step rfl ?_); (first | ((with_reducible refine Knd.move ?_); (refine Exec.stab rfl (Stab.move rfl) rfl ?_)) | ((with_reducible refine Knd.assign ?_); (refine Exec.stab rfl (Stab.assign rfl) rfl ?_)))) | (with_reducible refine Tr.next ?_) | (with_reducible refine Tr.seq ?_) | (with_reducible refine Tr.region ?_) | (with_reducible refine Tr.nil ?_) | (with_reducible refine Tr.ret ?_))
  have e : List.take 0 (List.replicate (Int.toNat 128) (Value.int .u8 0)) ++ byteV bs ++ List.drop (0 + (byteV bs).length) (List.replicate (Int.toNat 128) (Value.int .u8 0)) = byteV (pad bs) := by
    rw [pad, byteV_append, ← byteV_replicate, List.drop_replicate]; simp only [List.take_zero, List.nil_append, byteV_length, Nat.zero_add]; rfl
  rw [e]
  refine Tr.publish (by repeat (first | exact Del.here | apply Del.there)) (fun M' hm hok => ?_)
  (refine Tr.done (by first | exact .inl rfl | exact .inr rfl) rfl (by repeat (first | exact RVs.nil | (apply RVs.cons; (exact RV.tmp rfl)))) (by first | exact Mem.le.refl _ | assumption) (by exact ⟨[], rfl⟩) ⟨rfl, ?_⟩)
  have hp := pad_length hl
  have := BSl.of_box hok (by omega)
  rw [hp] at this ⊢
  exact ⟨_, _, rfl, this⟩

/-- a sector whose halves begin with a byte -/
def dbl (c : UInt8) : List UInt8 := (List.replicate 128 0 |>.set 0 c |>.set 64 c)
theorem byteV_set (l : List UInt8) (i : Nat) (c : UInt8) : (byteV l).set i (.int .u8 (c.toNat : Int)) = byteV (l.set i c) := by simp [byteV]
set_option maxHeartbeats 1000000 in
theorem double_fn (M : Mem) (c : UInt8) :
    Fn0 Try.prog 27 [.int .u8 (c.toNat : Int)] M (fun r M' => ∃ A' k', r = .slice A' (dbl c).length k' ∧ BSl M' (.slice A' (dbl c).length k') (dbl c)) := by
  refine Fn.intro Try.func27 rfl rfl Try.ntmps27 rfl fun E F => ?_
  repeat (first | ((with_reducible refine Tr.step rfl ?_); (first | ((with_reducible refine Knd.move ?_); (refine Exec.stab rfl (Stab.move rfl) rfl ?_)) | ((with_reducible refine Knd.assign ?_); (refine Exec.stab rfl (Stab.assign rfl) rfl ?_)) | ((with_reducible refine Knd.store ?_); ((refine Exec.store rfl rfl (tysOk.get rfl) rfl (by first | rfl | assumption) (by repeat (first | exact Upd.here | apply Upd.there)) (by repeat (first | exact SetL.z | apply SetL.s)) ?_))) | ((with_reducible refine Knd.indexAddr ?_); ((refine Exec.stab rfl (Stab.indexB0 rfl rfl (tysOk.get rfl) rfl (tysOk.get rfl) rfl (by omega) (by omega)) rfl ?_))) | ((with_reducible refine Knd.makeSlice ?_); (refine Exec.make rfl rfl (tysOk.get rfl) rfl (tysOk.get rfl) rfl rfl rfl (by omega) (by omega) (by first | omega | (simp; done) | (simp; omega)) (by omega) rfl (fun b => ?_))))) | (with_reducible refine Tr.next ?_) | (with_reducible refine Tr.seq ?_) | (with_reducible refine Tr.region ?_) | (with_reducible refine Tr.nil ?_) | (with_reducible refine Tr.ret ?_))
  refine (show Tr E ⟨12, _, _, M, box _ 5 (byteV (dbl c)) :: _⟩ _ from ?_)
  refine Tr.publish (by repeat (first | exact Del.here | apply Del.there)) (fun M' hm hok => ?_)
  (refine Tr.done (by first | exact .inl rfl | exact .inr rfl) rfl (by repeat (first | exact RVs.nil | (apply RVs.cons; (exact RV.tmp rfl)))) (by first | exact Mem.le.refl _ | assumption) (by exact ⟨[], rfl⟩) ⟨rfl, ?_⟩)
  have hp : (dbl c).length = 128 := by simp [dbl]
  have := BSl.of_box hok (by omega)
  rw [hp] at this ⊢
  exact ⟨_, _, rfl, this⟩

set_option maxHeartbeats 1000000 in
theorem clip_fn (M : Mem) (A : Option Addr) (n c : Nat) (hc : n ≤ c) (hm : c ≤ 9223372036854775807) :
    Fn0 Try.prog 31 [.slice A n c] M (fun r M' => r = .slice A n n ∧ M = M') := by
  refine Fn.intro Try.func31 rfl rfl Try.ntmps31 rfl fun E F => ?_
  repeat (first | ((with_reducible refine Tr.step rfl ?_); (first | ((with_reducible refine Knd.move ?_); (refine Exec.stab rfl (Stab.move rfl) rfl ?_)) | ((with_reducible refine Knd.assign ?_); (refine Exec.stab rfl (Stab.assign rfl) rfl ?_)) | ((with_reducible refine Knd.len ?_); (first | (refine Exec.stab rfl (Stab.len rfl (tysOk.get rfl) rfl) rfl ?_) | (refine Exec.stab rfl (Stab.lens rfl (tysOk.get rfl) rfl) rfl ?_))) | ((with_reducible refine Knd.slice ?_); ((refine Exec.stab rfl (Stab.slice_hm rfl rfl rfl (tysOk.get rfl) rfl (tysOk.get rfl) (by omega) (by omega) (by omega)) rfl ?_))))) | (with_reducible refine Tr.next ?_) | (with_reducible refine Tr.seq ?_) | (with_reducible refine Tr.region ?_) | (with_reducible refine Tr.nil ?_) | (with_reducible refine Tr.ret ?_))
  (refine Tr.done (by first | exact .inl rfl | exact .inr rfl) rfl (by repeat (first | exact RVs.nil | (apply RVs.cons; (exact RV.tmp rfl)))) (by first | exact Mem.le.refl _ | assumption) (by exact ⟨[], rfl⟩) ⟨rfl, ?_⟩)
  exact ⟨rfl, rfl⟩

theorem SlOf.of_own {α : Type} {sz e c : Nat} {R : Mem → List Value → α → Prop} {M : Mem} {A : Option Addr} {xs : List α} {cells : List Value} (h : (ownS e sz A xs.length c cells).ok M) (hc : c ≤ 9223372036854775807)
    (hR : ∀ i x, xs[i]? = some x → R M ((cells.drop (i * sz)).take sz) x) : SlOf sz R M (.slice A xs.length c) xs := by
  obtain ⟨h1, h2, h3⟩ := Row.of_own h
  exact ⟨A, c, cells, rfl, h2, hc, h3, h1, hR⟩

set_option maxHeartbeats 1000000 in
theorem clone_fn (M : Mem) (A : Option Addr) (c : Nat) (l : List (List UInt8)) (h : SlOf 1 RSec M (.slice A l.length c) l) (hl : l.length ≤ 4096) :
    Fn0 Try.prog 34 [.slice A l.length c] M (fun r M' => ∃ A' c', r = .slice A' l.length c' ∧ SlOf 1 RSec M' (.slice A' l.length c') l) := by
  obtain ⟨A', c', cells, e, h2, h3, h4, h5, h6⟩ := h
  cases e
  refine Fn.intro Try.func34 rfl rfl Try.ntmps34 rfl fun E F => ?_
  by_cases hA : A = none
  · have hl0 := h4 hA
    have hnil : l = [] := List.eq_nil_of_length_eq_zero hl0
    subst hnil
    repeat (first | ((with_reducible refine Tr.step rfl ?_); (first | ((with_reducible refine Knd.move ?_); (refine Exec.stab rfl (Stab.move rfl) rfl ?_)) | ((with_reducible refine Knd.assign ?_); (refine Exec.stab rfl (Stab.assign rfl) rfl ?_)) | ((with_reducible refine Knd.binOp ?_); ((refine Exec.stab rfl (Stab.slnil rfl (tysOk.get rfl) rfl) rfl ?_))))) | (with_reducible refine Tr.next ?_) | (with_reducible refine Tr.seq ?_) | (with_reducible refine Tr.region ?_) | (with_reducible refine Tr.nil ?_) | (with_reducible refine Tr.ret ?_) | (with_reducible refine Tr.then_ret ?_) | (refine Tr.cond_t rfl (by first | assumption | omega) ?_))
    (refine Tr.done (by first | exact .inl rfl | exact .inr rfl) rfl (by repeat (first | exact RVs.nil | (apply RVs.cons; (exact RV.tmp rfl)))) (by first | exact Mem.le.refl _ | assumption) (by exact ⟨[], rfl⟩) ⟨rfl, ?_⟩)
    exact ⟨none, 0, rfl, SlOf.nil _ _ _⟩
  · repeat (first | ((with_reducible refine Tr.step rfl ?_); (first | ((with_reducible refine Knd.move ?_); (refine Exec.stab rfl (Stab.move rfl) rfl ?_)) | ((with_reducible refine Knd.assign ?_); (refine Exec.stab rfl (Stab.assign rfl) rfl ?_)) | ((with_reducible refine Knd.binOp ?_); ((refine Exec.stab rfl (Stab.slnil rfl (tysOk.get rfl) rfl) rfl ?_))) | ((with_reducible refine Knd.buildSlice ?_); (refine Exec.buildSlice (tysOk.get rfl) rfl (tysOk.get rfl) rfl rfl rfl rfl rfl (by repeat (exact BuildP.nil)) rfl (fun b => ?_))))) | (with_reducible refine Tr.next ?_) | (with_reducible refine Tr.seq ?_) | (with_reducible refine Tr.region ?_) | (with_reducible refine Tr.nil ?_) | (with_reducible refine Tr.skip ?_) | (refine Tr.cond_f rfl (by first | assumption | omega) ?_))
    refine Tr.box_own 1 0 (by repeat (first | exact Upd.here | apply Upd.there)) rfl (by intro u hu; cases hu) (by simp [maxLen]) ?_
    ((refine Tr.step rfl ?_))
    refine Exec.append (news := cells) rfl rfl (tysOk.get rfl) rfl (tysOk.get rfl) rfl rfl rfl rfl (by repeat (first | exact Del.here | apply Del.there)) (Src.row h5) h5.len h5.one (by omega) (by omega) rfl (fun A' c' hc' => ?_)
    simp only [Nat.zero_add, List.nil_append]
    repeat (first | ((with_reducible refine Tr.step rfl ?_); (((with_reducible refine Knd.assign ?_); (refine Exec.stab rfl (Stab.assign rfl) rfl ?_)))) | (with_reducible refine Tr.next ?_) | (with_reducible refine Tr.nil ?_) | (with_reducible refine Tr.ret ?_))
    refine Tr.publish (by repeat (first | exact Del.here | apply Del.there)) (fun M' hm hok => ?_)
    (refine Tr.done (by first | exact .inl rfl | exact .inr rfl) rfl (by repeat (first | exact RVs.nil | (apply RVs.cons; (exact RV.tmp rfl)))) (by first | exact Mem.le.refl _ | assumption) (by exact ⟨[], rfl⟩) ⟨rfl, ?_⟩)
    exact ⟨A', c', rfl, SlOf.of_own hok hc' (fun i x hx => RSec.mono _ _ _ _ hm (h6 i x hx))⟩

set_option maxHeartbeats 1000000 in
theorem rcheck_fn (M : Mem) (v : Value) (d : Dsk) (h : RDisk M v d) :
    Fn0 Try.prog 16 [v] M (fun r M' => r = .int .i64 (if okD d then 0 else 440) ∧ M = M') := by
  have hD := h
  obtain ⟨A, c, B, k, rfl, h1, h2⟩ := h
  have l1 := h1.len_le
  have l2 := h2.len_le
  refine Fn.intro Try.func16 rfl rfl Try.ntmps16 rfl fun E F => ?_
  by_cases hpre : 1 ≤ d.sec.length ∧ d.sec.length ≤ 4096 ∧ d.pen.length ≤ 4096 ∧ -1 ≤ d.left ∧ d.left ≤ 65536
  · obtain ⟨p1, p2, p3, p4, p5⟩ := hpre
    repeat (first | ((with_reducible refine Tr.step rfl ?_); (first | ((with_reducible refine Knd.move ?_); (refine Exec.stab rfl (Stab.move rfl) rfl ?_)) | ((with_reducible refine Knd.assign ?_); (refine Exec.stab rfl (Stab.assign rfl) rfl ?_)) | ((with_reducible refine Knd.load ?_); ((refine Exec.stab rfl (Stab.load rfl (tysOk.get rfl) rfl (by repeat (first | exact Has.here | apply Has.there)) rfl) rfl ?_))) | ((with_reducible refine Knd.fieldAddr ?_); ((refine Exec.stab rfl (Stab.fieldZ rfl (tysOk.get rfl) rfl rfl (tysOk.get rfl) rfl) rfl ?_))) | ((with_reducible refine Knd.len ?_); (first | (refine Exec.stab rfl (Stab.len rfl (tysOk.get rfl) rfl) rfl ?_) | (refine Exec.stab rfl (Stab.lens rfl (tysOk.get rfl) rfl) rfl ?_))) | ((with_reducible refine Knd.binOp ?_); ((refine Exec.stab rfl (Stab.int rfl rfl rfl) rfl ?_))) | ((with_reducible refine Knd.pick ?_); ((refine Exec.stab rfl (Stab.pick_fd rfl (by first | assumption | omega) rfl) rfl ?_))) | ((with_reducible refine Knd.box ?_); (first | (refine Exec.box rfl rfl (fun b => ?_)) | (refine Exec.box1 rfl (by first | rfl | assumption) rfl (fun b => ?_)))))) | (with_reducible refine Tr.next ?_) | (with_reducible refine Tr.seq ?_) | (with_reducible refine Tr.region ?_) | (with_reducible refine Tr.nil ?_) | ((refine Tr.guard_y' rfl rfl rfl (by first | assumption | omega) ?_); (first | ((with_reducible refine Knd.move ?_); (refine Exec.stab rfl (Stab.move rfl) rfl ?_)) | ((with_reducible refine Knd.load ?_); ((refine Exec.stab rfl (Stab.load rfl (tysOk.get rfl) rfl (by repeat (first | exact Has.here | apply Has.there)) rfl) rfl ?_))) | ((with_reducible refine Knd.fieldAddr ?_); ((refine Exec.stab rfl (Stab.fieldZ rfl (tysOk.get rfl) rfl rfl (tysOk.get rfl) rfl) rfl ?_))) | ((with_reducible refine Knd.len ?_); (first | (refine Exec.stab rfl (Stab.len rfl (tysOk.get rfl) rfl) rfl ?_) | (refine Exec.stab rfl (Stab.lens rfl (tysOk.get rfl) rfl) rfl ?_))) | ((with_reducible refine Knd.binOp ?_); ((refine Exec.stab rfl (Stab.int rfl rfl rfl) rfl ?_))))) | (with_reducible refine Tr.skip ?_) | (with_reducible refine Tr.block ?_) | (refine Tr.cond_f rfl (by first | assumption | omega) ?_))
    refine Tr.loop (α := Nat) (fun i => ⟨71, [(4, .int .i64 i), (3, .int .i64 d.sec.length), (2, .int .i64 0), (1, .pointer (some ⟨_, 0, none⟩))], [], M, _⟩) (fun i => i ≤ d.sec.length ∧ ∀ j s, j < i → d.sec[j]? = some s → s.length = 128) (fun i => d.sec.length - i) 0 ⟨Nat.zero_le _, fun j s h => by omega⟩ (holds_sub (by repeat (first | exact SubFr.nil | refine SubFr.cons rfl ?_)) (by repeat (first | exact DropL.refl | apply DropL.skip))) (fun i hi => ?_)
    obtain ⟨hi, hall⟩ := hi
    by_cases hlt : i < d.sec.length
    · obtain ⟨x, hx⟩ := get_of_lt hlt
      obtain ⟨hA, ch, hat, A1, k1, rfl, hb⟩ := h1.elem hx
      repeat' (first | ((with_reducible refine Tr.step rfl ?_); (first | ((with_reducible refine Knd.move ?_); (refine Exec.stab rfl (Stab.move rfl) rfl ?_)) | ((with_reducible refine Knd.assign ?_); (refine Exec.stab rfl (Stab.assign rfl) rfl ?_)) | ((with_reducible refine Knd.load ?_); (first | (refine Exec.stab rfl (Stab.load rfl (tysOk.get rfl) rfl (by repeat (first | exact Has.here | apply Has.there)) rfl) rfl ?_) | (refine Exec.stab rfl (Stab.loadM rfl (tysOk.get rfl) rfl (by assumption)) rfl ?_))) | ((with_reducible refine Knd.fieldAddr ?_); ((refine Exec.stab rfl (Stab.fieldZ rfl (tysOk.get rfl) rfl rfl (tysOk.get rfl) rfl) rfl ?_))) | ((with_reducible refine Knd.len ?_); (first | (refine Exec.stab rfl (Stab.len rfl (tysOk.get rfl) rfl) rfl ?_) | (refine Exec.stab rfl (Stab.lens rfl (tysOk.get rfl) rfl) rfl ?_))) | ((with_reducible refine Knd.binOp ?_); (first | (refine Exec.stab rfl (Stab.addi rfl rfl (by omega)) rfl ?_) | (refine Exec.stab rfl (Stab.int rfl rfl rfl) rfl ?_))) | ((with_reducible refine Knd.indexAddr ?_); ((refine Exec.stab rfl (Stab.indexAddr rfl rfl (tysOk.get rfl) rfl (tysOk.get rfl) rfl (by omega) (by omega) (by first | rfl | assumption)) rfl ?_))))) | (with_reducible refine Tr.next ?_) | (with_reducible refine Tr.seq ?_) | (with_reducible refine Tr.region ?_) | (with_reducible refine Tr.nil ?_) | (with_reducible refine Tr.skip ?_) | (with_reducible refine Tr.block ?_) | (with_reducible refine Tr.ret ?_) | (with_reducible refine Tr.then_ret ?_) | (with_reducible refine Tr.in_ret ?_) | (with_reducible refine Tr.in_normal ?_) | (refine Tr.cond_t rfl (by first | assumption | omega) ?_) | ((refine Tr.condd rfl (fun hg => ?_) (fun hg => ?_))))
      · (refine Tr.done (by first | exact .inl rfl | exact .inr rfl) rfl (by repeat (first | exact RVs.nil | (apply RVs.cons; (exact RV.tmp rfl)))) (by first | exact Mem.le.refl _ | assumption) (by exact ⟨[_], rfl⟩) ⟨rfl, ?_⟩)
        exact ⟨by rw [if_neg (fun hk => by have := hk.2.2.2.1 x (getElem_mem' hx); omega)]; rfl, rfl⟩
      · refine Tr.again (i + 1) ⟨by omega, fun j s hj hs => ?_⟩ (by omega) (holds_sub (by repeat (first | exact SubFr.nil | refine SubFr.cons rfl ?_)) (by repeat (first | exact DropL.refl | apply DropL.skip)))
        by_cases e : j = i
        · subst e; rw [hx] at hs; cases hs; omega
        · exact hall j s (by omega) hs
    · have hsec : ∀ s ∈ d.sec, s.length = 128 := fun s hs => by
        obtain ⟨j, hj⟩ := List.getElem?_of_mem hs
        exact hall j s (by have := (List.getElem?_eq_some_iff.1 hj).1; omega) hj
      clear hall
      repeat' (first | ((with_reducible refine Tr.step rfl ?_); (first | ((with_reducible refine Knd.move ?_); (refine Exec.stab rfl (Stab.move rfl) rfl ?_)) | ((with_reducible refine Knd.assign ?_); (refine Exec.stab rfl (Stab.assign rfl) rfl ?_)) | ((with_reducible refine Knd.binOp ?_); ((refine Exec.stab rfl (Stab.int rfl rfl rfl) rfl ?_))))) | (with_reducible refine Tr.next ?_) | (with_reducible refine Tr.seq ?_) | (with_reducible refine Tr.region ?_) | (with_reducible refine Tr.nil ?_) | (with_reducible refine Tr.block ?_) | (with_reducible refine Tr.exit ?_) | (with_reducible refine Tr.then_exit ?_) | ((with_reducible refine Tr.in_exit ?_ ?_); (exact rfl)) | (refine Tr.cond_f rfl (by first | assumption | omega) ?_))
      refine Tr.loop (α := Nat) (fun i => ⟨71, [(5, .int .i64 i), (3, .int .i64 d.sec.length), (2, .int .i64 0), (1, .pointer (some ⟨_, 0, none⟩))], [], M, _⟩) (fun i => i ≤ d.pen.length ∧ ∀ j w, j < i → d.pen[j]? = some w → 0 ≤ w.1 ∧ w.1 < d.sec.length ∧ w.2.length = 128) (fun i => d.pen.length - i) 0 ⟨Nat.zero_le _, fun j s h => by omega⟩ (holds_sub (by repeat (first | exact SubFr.nil | refine SubFr.cons rfl ?_)) (by repeat (first | exact DropL.refl | apply DropL.skip))) (fun i hi => ?_)
      obtain ⟨hi, hall⟩ := hi
      by_cases hlt : i < d.pen.length
      · obtain ⟨x, hx⟩ := get_of_lt hlt
        obtain ⟨hA, ch, hat, A1, k1, rfl, hb⟩ := h2.elem hx
        by_cases hgood : 0 ≤ x.1 ∧ x.1 < d.sec.length ∧ x.2.length = 128
        · obtain ⟨g1, g2, g3⟩ := hgood
          repeat (first | ((with_reducible refine Tr.step rfl ?_); (first | ((with_reducible refine Knd.move ?_); (refine Exec.stab rfl (Stab.move rfl) rfl ?_)) | ((with_reducible refine Knd.assign ?_); (refine Exec.stab rfl (Stab.assign rfl) rfl ?_)) | ((with_reducible refine Knd.load ?_); (first | (refine Exec.stab rfl (Stab.load rfl (tysOk.get rfl) rfl (by repeat (first | exact Has.here | apply Has.there)) rfl) rfl ?_) | (refine Exec.stab rfl (Stab.loadMA rfl (tysOk.get rfl) rfl (by assumption) rfl) rfl ?_))) | ((with_reducible refine Knd.fieldAddr ?_); ((refine Exec.stab rfl (Stab.fieldZ rfl (tysOk.get rfl) rfl rfl (tysOk.get rfl) rfl) rfl ?_))) | ((with_reducible refine Knd.len ?_); (first | (refine Exec.stab rfl (Stab.len rfl (tysOk.get rfl) rfl) rfl ?_) | (refine Exec.stab rfl (Stab.lens rfl (tysOk.get rfl) rfl) rfl ?_))) | ((with_reducible refine Knd.binOp ?_); (first | (refine Exec.stab rfl (Stab.addi rfl rfl (by omega)) rfl ?_) | (refine Exec.stab rfl (Stab.int rfl rfl rfl) rfl ?_))) | ((with_reducible refine Knd.pick ?_); ((refine Exec.stab rfl (Stab.pick_fd rfl (by first | assumption | omega) rfl) rfl ?_))) | ((with_reducible refine Knd.store ?_); ((refine Exec.storeW rfl rfl (tysOk.get rfl) (by repeat (first | exact Upd.here | apply Upd.there)) rfl rfl (by repeat (first | exact AllOne.nil | refine AllOne.cons (by first | rfl | assumption) ?_)) ?_))) | ((with_reducible refine Knd.alloc ?_); (first | (refine Exec.alloc (tysOk.get rfl) rfl rfl (fun b => ?_)) | (refine Exec.alloc1 (tysOk.get rfl) rfl rfl rfl (fun b => ?_)))) | ((with_reducible refine Knd.indexAddr ?_); ((refine Exec.stab rfl (Stab.indexAddr rfl rfl (tysOk.get rfl) rfl (tysOk.get rfl) rfl (by omega) (by omega) (by first | rfl | assumption)) rfl ?_))))) | (with_reducible refine Tr.next ?_) | (with_reducible refine Tr.seq ?_) | (with_reducible refine Tr.region ?_) | (with_reducible refine Tr.nil ?_) | ((refine Tr.guard_y' rfl rfl rfl (by first | assumption | omega) ?_); (first | ((with_reducible refine Knd.move ?_); (refine Exec.stab rfl (Stab.move rfl) rfl ?_)) | ((with_reducible refine Knd.load ?_); ((refine Exec.stab rfl (Stab.load rfl (tysOk.get rfl) rfl (by repeat (first | exact Has.here | apply Has.there)) rfl) rfl ?_))) | ((with_reducible refine Knd.fieldAddr ?_); ((refine Exec.stab rfl (Stab.fieldZ rfl (tysOk.get rfl) rfl rfl (tysOk.get rfl) rfl) rfl ?_))) | ((with_reducible refine Knd.len ?_); (first | (refine Exec.stab rfl (Stab.len rfl (tysOk.get rfl) rfl) rfl ?_) | (refine Exec.stab rfl (Stab.lens rfl (tysOk.get rfl) rfl) rfl ?_))) | ((with_reducible refine Knd.binOp ?_); ((refine Exec.stab rfl (Stab.int rfl rfl rfl) rfl ?_))))) | (with_reducible refine Tr.skip ?_) | (with_reducible refine Tr.block ?_) | (with_reducible refine Tr.in_normal ?_) | (refine Tr.cond_t rfl (by first | assumption | omega) ?_) | (refine Tr.cond_f rfl (by first | assumption | omega) ?_))
          refine Tr.again (i + 1) ⟨by omega, fun j s hj hs => ?_⟩ (by omega) (holds_sub (by repeat (first | exact SubFr.nil | refine SubFr.cons rfl ?_)) (by repeat (first | exact DropL.refl | apply DropL.skip)))
          by_cases e : j = i
          · subst e; rw [hx] at hs; cases hs; omega
          · exact hall j s (by omega) hs
        · have hno : ¬ okD d := fun hk => hgood (hk.2.2.2.2.1 x (getElem_mem' hx))
          clear hall
          repeat' (first | ((with_reducible refine Tr.step rfl ?_); (first | ((with_reducible refine Knd.move ?_); (refine Exec.stab rfl (Stab.move rfl) rfl ?_)) | ((with_reducible refine Knd.assign ?_); (refine Exec.stab rfl (Stab.assign rfl) rfl ?_)) | ((with_reducible refine Knd.load ?_); (first | (refine Exec.stab rfl (Stab.load rfl (tysOk.get rfl) rfl (by repeat (first | exact Has.here | apply Has.there)) rfl) rfl ?_) | (refine Exec.stab rfl (Stab.loadMA rfl (tysOk.get rfl) rfl (by assumption) rfl) rfl ?_))) | ((with_reducible refine Knd.fieldAddr ?_); ((refine Exec.stab rfl (Stab.fieldZ rfl (tysOk.get rfl) rfl rfl (tysOk.get rfl) rfl) rfl ?_))) | ((with_reducible refine Knd.len ?_); (first | (refine Exec.stab rfl (Stab.len rfl (tysOk.get rfl) rfl) rfl ?_) | (refine Exec.stab rfl (Stab.lens rfl (tysOk.get rfl) rfl) rfl ?_))) | ((with_reducible refine Knd.binOp ?_); ((refine Exec.stab rfl (Stab.int rfl rfl rfl) rfl ?_))) | ((with_reducible refine Knd.pick ?_); (first | (refine Exec.stab rfl (Stab.pick_t rfl (by first | (with_reducible rfl) | assumption | (with_reducible exact Bool.not_true) | (with_reducible exact Bool.not_false)) rfl) rfl ?_) | (refine Exec.stab rfl (Stab.pick_td rfl (by first | assumption | omega) rfl) rfl ?_) | (refine Exec.stab rfl (Stab.pick_fd rfl (by first | assumption | omega) rfl) rfl ?_))) | ((with_reducible refine Knd.store ?_); ((refine Exec.storeW rfl rfl (tysOk.get rfl) (by repeat (first | exact Upd.here | apply Upd.there)) rfl rfl (by repeat (first | exact AllOne.nil | refine AllOne.cons (by first | rfl | assumption) ?_)) ?_))) | ((with_reducible refine Knd.alloc ?_); (first | (refine Exec.alloc (tysOk.get rfl) rfl rfl (fun b => ?_)) | (refine Exec.alloc1 (tysOk.get rfl) rfl rfl rfl (fun b => ?_)))) | ((with_reducible refine Knd.indexAddr ?_); ((refine Exec.stab rfl (Stab.indexAddr rfl rfl (tysOk.get rfl) rfl (tysOk.get rfl) rfl (by omega) (by omega) (by first | rfl | assumption)) rfl ?_))))) | (with_reducible refine Tr.next ?_) | (with_reducible refine Tr.seq ?_) | (with_reducible refine Tr.region ?_) | (with_reducible refine Tr.nil ?_) | (refine Tr.guard_s0 rfl rfl rfl (by first | (with_reducible rfl) | assumption | (with_reducible exact Bool.not_true) | (with_reducible exact Bool.not_false)) rfl rfl ?_) | ((refine Tr.guard_y' rfl rfl rfl (by first | assumption | omega) ?_); (first | ((with_reducible refine Knd.move ?_); (refine Exec.stab rfl (Stab.move rfl) rfl ?_)) | ((with_reducible refine Knd.load ?_); ((refine Exec.stab rfl (Stab.load rfl (tysOk.get rfl) rfl (by repeat (first | exact Has.here | apply Has.there)) rfl) rfl ?_))) | ((with_reducible refine Knd.len ?_); (first | (refine Exec.stab rfl (Stab.len rfl (tysOk.get rfl) rfl) rfl ?_) | (refine Exec.stab rfl (Stab.lens rfl (tysOk.get rfl) rfl) rfl ?_))) | ((with_reducible refine Knd.binOp ?_); ((refine Exec.stab rfl (Stab.int rfl rfl rfl) rfl ?_))))) | (refine Tr.guard_n' rfl rfl rfl (by first | assumption | omega) rfl rfl ?_) | (with_reducible refine Tr.skip ?_) | (with_reducible refine Tr.block ?_) | (with_reducible refine Tr.ret ?_) | (with_reducible refine Tr.then_ret ?_) | (with_reducible refine Tr.in_ret ?_) | (refine Tr.cond_bt rfl (by first | (with_reducible rfl) | assumption | (with_reducible exact Bool.not_true) | (with_reducible exact Bool.not_false)) ?_) | (refine Tr.cond_t rfl (by first | assumption | omega) ?_) | (((with_reducible refine Knd.fieldAddr ?_); ((refine Exec.stab rfl (Stab.fieldZ rfl (tysOk.get rfl) rfl rfl (tysOk.get rfl) rfl) rfl ?_)))) | ((refine Tr.guardd' rfl rfl rfl rfl rfl (fun hg => ?_) (fun hg => ?_))))
          all_goals
            first
              | (exfalso; omega)
              | ((refine Tr.done (by first | exact .inl rfl | exact .inr rfl) rfl (by repeat (first | exact RVs.nil | (apply RVs.cons; (exact RV.tmp rfl)))) (by first | exact Mem.le.refl _ | assumption) (by exact ⟨[_, _], rfl⟩) ⟨rfl, ?_⟩)
                 exact ⟨by rw [if_neg hno]; rfl, rfl⟩)
      · have hpen : ∀ w ∈ d.pen, 0 ≤ w.1 ∧ w.1 < d.sec.length ∧ w.2.length = 128 := fun s hs => by
          obtain ⟨j, hj⟩ := List.getElem?_of_mem hs
          exact hall j s (by have := (List.getElem?_eq_some_iff.1 hj).1; omega) hj
        clear hall
        repeat (first | ((with_reducible refine Tr.step rfl ?_); (first | ((with_reducible refine Knd.move ?_); (refine Exec.stab rfl (Stab.move rfl) rfl ?_)) | ((with_reducible refine Knd.assign ?_); (refine Exec.stab rfl (Stab.assign rfl) rfl ?_)) | ((with_reducible refine Knd.load ?_); ((refine Exec.stab rfl (Stab.load rfl (tysOk.get rfl) rfl (by repeat (first | exact Has.here | apply Has.there)) rfl) rfl ?_))) | ((with_reducible refine Knd.fieldAddr ?_); ((refine Exec.stab rfl (Stab.fieldZ rfl (tysOk.get rfl) rfl rfl (tysOk.get rfl) rfl) rfl ?_))) | ((with_reducible refine Knd.len ?_); (first | (refine Exec.stab rfl (Stab.len rfl (tysOk.get rfl) rfl) rfl ?_) | (refine Exec.stab rfl (Stab.lens rfl (tysOk.get rfl) rfl) rfl ?_))) | ((with_reducible refine Knd.binOp ?_); ((refine Exec.stab rfl (Stab.int rfl rfl rfl) rfl ?_))))) | (with_reducible refine Tr.next ?_) | (with_reducible refine Tr.seq ?_) | (with_reducible refine Tr.region ?_) | (with_reducible refine Tr.nil ?_) | (with_reducible refine Tr.exit ?_) | (with_reducible refine Tr.ret ?_) | (with_reducible refine Tr.then_exit ?_) | ((with_reducible refine Tr.in_exit ?_ ?_); (exact rfl)) | (refine Tr.cond_f rfl (by first | assumption | omega) ?_))
        (refine Tr.done (by first | exact .inl rfl | exact .inr rfl) rfl (by repeat (first | exact RVs.nil | (apply RVs.cons; (exact RV.tmp rfl)))) (by first | exact Mem.le.refl _ | assumption) (by exact ⟨[_], rfl⟩) ⟨rfl, ?_⟩)
        exact ⟨by rw [if_pos ⟨by omega, by omega, by omega, hsec, hpen, by omega, by omega⟩]; rfl, rfl⟩
  · have hno : ¬ okD d := fun hk => hpre ⟨hk.1, hk.2.1, hk.2.2.1, hk.2.2.2.2.2⟩
    repeat' (first | ((with_reducible refine Tr.step rfl ?_); (first | ((with_reducible refine Knd.move ?_); (refine Exec.stab rfl (Stab.move rfl) rfl ?_)) | ((with_reducible refine Knd.assign ?_); (refine Exec.stab rfl (Stab.assign rfl) rfl ?_)) | ((with_reducible refine Knd.load ?_); ((refine Exec.stab rfl (Stab.load rfl (tysOk.get rfl) rfl (by repeat (first | exact Has.here | apply Has.there)) rfl) rfl ?_))) | ((with_reducible refine Knd.fieldAddr ?_); ((refine Exec.stab rfl (Stab.fieldZ rfl (tysOk.get rfl) rfl rfl (tysOk.get rfl) rfl) rfl ?_))) | ((with_reducible refine Knd.len ?_); (first | (refine Exec.stab rfl (Stab.len rfl (tysOk.get rfl) rfl) rfl ?_) | (refine Exec.stab rfl (Stab.lens rfl (tysOk.get rfl) rfl) rfl ?_))) | ((with_reducible refine Knd.binOp ?_); ((refine Exec.stab rfl (Stab.int rfl rfl rfl) rfl ?_))) | ((with_reducible refine Knd.pick ?_); (first | (refine Exec.stab rfl (Stab.pick_t rfl (by first | (with_reducible rfl) | assumption | (with_reducible exact Bool.not_true) | (with_reducible exact Bool.not_false)) rfl) rfl ?_) | (refine Exec.stab rfl (Stab.pick_td rfl (by first | assumption | omega) rfl) rfl ?_) | (refine Exec.stab rfl (Stab.pick_fd rfl (by first | assumption | omega) rfl) rfl ?_))) | ((with_reducible refine Knd.box ?_); (first | (refine Exec.box rfl rfl (fun b => ?_)) | (refine Exec.box1 rfl (by first | rfl | assumption) rfl (fun b => ?_)))))) | (with_reducible refine Tr.next ?_) | (with_reducible refine Tr.seq ?_) | (with_reducible refine Tr.region ?_) | (with_reducible refine Tr.nil ?_) | (refine Tr.guard_s0 rfl rfl rfl (by first | (with_reducible rfl) | assumption | (with_reducible exact Bool.not_true) | (with_reducible exact Bool.not_false)) rfl rfl ?_) | ((refine Tr.guard_y' rfl rfl rfl (by first | assumption | omega) ?_); (first | ((with_reducible refine Knd.load ?_); ((refine Exec.stab rfl (Stab.load rfl (tysOk.get rfl) rfl (by repeat (first | exact Has.here | apply Has.there)) rfl) rfl ?_))) | ((with_reducible refine Knd.len ?_); (first | (refine Exec.stab rfl (Stab.len rfl (tysOk.get rfl) rfl) rfl ?_) | (refine Exec.stab rfl (Stab.lens rfl (tysOk.get rfl) rfl) rfl ?_))) | ((with_reducible refine Knd.binOp ?_); ((refine Exec.stab rfl (Stab.int rfl rfl rfl) rfl ?_))))) | (refine Tr.guard_n' rfl rfl rfl (by first | assumption | omega) rfl rfl ?_) | (with_reducible refine Tr.ret ?_) | (with_reducible refine Tr.then_ret ?_) | (refine Tr.cond_bt rfl (by first | (with_reducible rfl) | assumption | (with_reducible exact Bool.not_true) | (with_reducible exact Bool.not_false)) ?_) | (refine Tr.cond_t rfl (by first | assumption | omega) ?_) | (first | ((with_reducible refine Knd.move ?_); (refine Exec.stab rfl (Stab.move rfl) rfl ?_)) | ((with_reducible refine Knd.fieldAddr ?_); ((refine Exec.stab rfl (Stab.fieldZ rfl (tysOk.get rfl) rfl rfl (tysOk.get rfl) rfl) rfl ?_)))) | ((refine Tr.guardd' rfl rfl rfl rfl rfl (fun hg => ?_) (fun hg => ?_))))
    all_goals
      first
        | (exfalso; omega)
        | ((refine Tr.done (by first | exact .inl rfl | exact .inr rfl) rfl (by repeat (first | exact RVs.nil | (apply RVs.cons; (exact RV.tmp rfl)))) (by first | exact Mem.le.refl _ | assumption) (by exact ⟨[_], rfl⟩) ⟨rfl, ?_⟩)
           exact ⟨by rw [if_neg hno]; rfl, rfl⟩)
end Go.Proofs.Ytfmfakgokgcjmaa
