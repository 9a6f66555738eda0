/-
  Texts of the proof, one after the other.
  Conditions: none.
-/
import Derived.Test.YtkbggengagockaaTys
import Derived.Test.YtkbggengagockaaBfRange
import Derived.Test.YtkbggengagockaaBfRepB
import Derived.Test.YtkbggengagockaaBfFn
import Derived.Test.YtkbggengagockaaBfBits
import Derived.Test.YtkbggengagockaaBfUnd
import Derived.Test.YtkbggengagockaaBfStr
import Derived.Test.YtkbggengagockaaBfPan
import Derived.Test.YtkbggengagockaaBfArr
import Derived.Test.YtkbggengagockaaBfPend
import Derived.Test.YtkbggengagockaaBfLend
import Derived.Test.YtkbggengagockaaBfAppZ
/-
  The disk: how disks read, and the contracts of Check, index, running, Restart, Stop, New and sector.
  Conditions: none.
-/
namespace Go.Proofs.Ytkbggengagockaa
open Go Bf
attribute [local irreducible] Tr Exec Stab HasTy Go.Addr.add IntKind.wrap

structure Dsk where
  sec : List (List UInt8)
  pen : List (Int × List UInt8)
  left : Int
  stop : Bool

def RSec (M : Mem) (c : List Value) (x : List UInt8) : Prop := ∃ A k, c = [.slice A x.length k] ∧ BSl M (.slice A x.length k) x
def RWr (M : Mem) (c : List Value) (x : Int × List UInt8) : Prop := ∃ A k, c = [.int .i64 x.1, .slice A x.2.length k] ∧ BSl M (.slice A x.2.length k) x.2
def RDisk (M : Mem) (v : Value) (d : Dsk) : Prop := ∃ A c B k, v = .agg #[.slice A d.sec.length c, .slice B d.pen.length k, .int .i64 d.left, .bool d.stop] ∧ SlOf 1 RSec M (.slice A d.sec.length c) d.sec ∧ SlOf 2 RWr M (.slice B d.pen.length k) d.pen
theorem RSec.mono (M M' : Mem) (c : List Value) (x : List UInt8) (hm : Mem.le M M') (h : RSec M c x) : RSec M' c x := let ⟨A, k, h1, h2⟩ := h; ⟨A, k, h1, h2.mono hm⟩
theorem RWr.mono (M M' : Mem) (c : List Value) (x : Int × List UInt8) (hm : Mem.le M M') (h : RWr M c x) : RWr M' c x := let ⟨A, k, h1, h2⟩ := h; ⟨A, k, h1, h2.mono hm⟩
theorem RDisk.mono {M M' : Mem} {v : Value} {d : Dsk} (h : RDisk M v d) (hm : Mem.le M M') : RDisk M' v d :=
  let ⟨A, c, B, k, h1, h2, h3⟩ := h; ⟨A, c, B, k, h1, h2.mono RSec.mono hm, h3.mono RWr.mono hm⟩
def zD : Dsk := ⟨[], [], 0, false⟩
def zV : Value := .agg #[.slice none 0 0, .slice none 0 0, .int .i64 0, .bool false]
theorem RDisk.zero (M : Mem) : RDisk M (.agg #[.slice none 0 0, .slice none 0 0, .int .i64 0, .bool false]) zD := ⟨none, 0, none, 0, rfl, SlOf.nil _ _ _, SlOf.nil _ _ _⟩

def okD (d : Dsk) : Prop := 1 ≤ d.sec.length ∧ d.sec.length ≤ 4096 ∧ d.pen.length ≤ 4096 ∧ (∀ s ∈ d.sec, s.length = 128) ∧ (∀ w ∈ d.pen, 0 ≤ w.1 ∧ w.1 < d.sec.length ∧ w.2.length = 128) ∧ -1 ≤ d.left ∧ d.left ≤ 65536
instance (d : Dsk) : Decidable (okD d) := by unfold okD; infer_instance
theorem getElem_mem' {α : Type} {l : List α} {i : Nat} {x : α} (h : l[i]? = some x) : x ∈ l := List.mem_of_getElem? h

set_option maxHeartbeats 1000000 in
theorem index_fn (M : Mem) (v : Value) (d : Dsk) (at_ : Int) (h : RDisk M v d) :
    Fn0 Try.prog 51 [v, .int .i64 at_] M (fun r M' => r = .bool (decide (0 ≤ at_ ∧ at_ < d.sec.length)) ∧ M = M') := by
  obtain ⟨A, c, B, k, rfl, h1, h2⟩ := h
  refine Fn.intro Try.func51 rfl rfl Try.ntmps51 rfl fun E F => ?_
  repeat' (first | ((with_reducible refine Tr.step rfl ?_); (first | ((with_reducible refine Knd.move ?_); (refine Exec.stab rfl (Stab.move rfl) rfl ?_)) | ((with_reducible refine Knd.assign ?_); (refine Exec.stab rfl (Stab.assign rfl) rfl ?_)) | ((with_reducible refine Knd.binOp ?_); ((refine Exec.stab rfl (Stab.int rfl rfl rfl) rfl ?_))) | ((with_reducible refine Knd.pick ?_); (first | (refine Exec.stab rfl (Stab.pick_td rfl (by (with_reducible assumption)) rfl) rfl ?_) | (refine Exec.stab rfl (Stab.pick_fd rfl (by (with_reducible assumption)) rfl) rfl ?_))) | ((with_reducible refine Knd.box ?_); ((refine Exec.box rfl rfl (fun b => ?_)))))) | (with_reducible refine Tr.next ?_) | (with_reducible refine Tr.seq ?_) | (with_reducible refine Tr.region ?_) | (with_reducible refine Tr.nil ?_) | ((refine Tr.guard_y rfl rfl rfl (by (with_reducible assumption)) ?_); (first | ((with_reducible refine Knd.load ?_); ((refine Exec.stab rfl (Stab.load rfl (tysOk.get rfl) rfl (by repeat (first | exact Has.here | apply Has.there)) rfl) rfl ?_))) | ((with_reducible refine Knd.fieldAddr ?_); ((refine Exec.stab rfl (Stab.fieldZ rfl (tysOk.get rfl) rfl rfl (tysOk.get rfl) rfl) rfl ?_))) | ((with_reducible refine Knd.len ?_); ((refine Exec.stab rfl (Stab.len rfl (tysOk.get rfl) rfl) rfl ?_))) | ((with_reducible refine Knd.binOp ?_); ((refine Exec.stab rfl (Stab.int rfl rfl rfl) rfl ?_))))) | (refine Tr.guard_n rfl rfl rfl (by (with_reducible assumption)) rfl rfl ?_) | (with_reducible refine Tr.ret ?_) | (((with_reducible refine Knd.move ?_); (refine Exec.stab rfl (Stab.move rfl) rfl ?_))) | ((refine Tr.guardd rfl rfl rfl rfl rfl (fun hg => ?_) (fun hg => ?_))))
  all_goals
    (refine Tr.done (by first | exact .inl rfl | exact .inr rfl) rfl (by repeat (first | exact RVs.nil | (apply RVs.cons; (exact RV.tmp rfl)))) (by first | exact Mem.le.refl _ | assumption) (by exact ⟨[_], rfl⟩) ⟨rfl, ?_⟩)
    exact ⟨by simp [resVal]; omega, rfl⟩

set_option maxHeartbeats 1000000 in
theorem check_fn (M : Mem) (v : Value) (d : Dsk) (h : RDisk M v d) :
    Fn0 Try.prog 55 [v] M (fun r M' => r = .int .i64 (if okD d then 0 else 440) ∧ M = M') := by
  have hD := h
  obtain ⟨A, c, B, k, rfl, h1, h2⟩ := h
  have l1 := h1.len_le
  have l2 := h2.len_le
  refine Fn.intro Try.func55 rfl rfl Try.ntmps55 rfl fun E F => ?_
  repeat' (first | ((with_reducible refine Tr.step rfl ?_); (first | ((with_reducible refine Knd.move ?_); (refine Exec.stab rfl (Stab.move rfl) rfl ?_)) | ((with_reducible refine Knd.assign ?_); (refine Exec.stab rfl (Stab.assign rfl) rfl ?_)) | ((with_reducible refine Knd.load ?_); ((refine Exec.stab rfl (Stab.load rfl (tysOk.get rfl) rfl (by repeat (first | exact Has.here | apply Has.there)) rfl) rfl ?_))) | ((with_reducible refine Knd.fieldAddr ?_); ((refine Exec.stab rfl (Stab.fieldZ rfl (tysOk.get rfl) rfl rfl (tysOk.get rfl) rfl) rfl ?_))) | ((with_reducible refine Knd.len ?_); ((refine Exec.stab rfl (Stab.len rfl (tysOk.get rfl) rfl) rfl ?_))) | ((with_reducible refine Knd.binOp ?_); ((refine Exec.stab rfl (Stab.int rfl rfl rfl) rfl ?_))) | ((with_reducible refine Knd.pick ?_); (first | (refine Exec.stab rfl (Stab.pick_t rfl (by (with_reducible rfl)) rfl) rfl ?_) | (refine Exec.stab rfl (Stab.pick_td rfl (by (with_reducible assumption)) rfl) rfl ?_) | (refine Exec.stab rfl (Stab.pick_fd rfl (by (with_reducible assumption)) rfl) rfl ?_))) | ((with_reducible refine Knd.box ?_); ((refine Exec.box rfl rfl (fun b => ?_)))))) | (with_reducible refine Tr.next ?_) | (with_reducible refine Tr.seq ?_) | (with_reducible refine Tr.region ?_) | (with_reducible refine Tr.nil ?_) | (refine Tr.guard_s0 rfl rfl rfl (by (with_reducible rfl)) rfl rfl ?_) | ((refine Tr.guard_y' rfl rfl rfl (by (with_reducible assumption)) ?_); (first | ((with_reducible refine Knd.load ?_); ((refine Exec.stab rfl (Stab.load rfl (tysOk.get rfl) rfl (by repeat (first | exact Has.here | apply Has.there)) rfl) rfl ?_))) | ((with_reducible refine Knd.len ?_); ((refine Exec.stab rfl (Stab.len rfl (tysOk.get rfl) rfl) rfl ?_))) | ((with_reducible refine Knd.binOp ?_); ((refine Exec.stab rfl (Stab.int rfl rfl rfl) rfl ?_))))) | (refine Tr.guard_n' rfl rfl rfl (by (with_reducible assumption)) rfl rfl ?_) | (with_reducible refine Tr.skip ?_) | (with_reducible refine Tr.block ?_) | (with_reducible refine Tr.ret ?_) | (with_reducible refine Tr.then_ret ?_) | (refine Tr.cond_bt rfl (by (with_reducible rfl)) ?_) | (((with_reducible refine Knd.fieldAddr ?_); ((refine Exec.stab rfl (Stab.fieldZ rfl (tysOk.get rfl) rfl rfl (tysOk.get rfl) rfl) rfl ?_)))) | (first | (refine Tr.guardd' rfl rfl rfl rfl rfl (fun hg => ?_) (fun hg => ?_)) | (refine Tr.condd rfl (fun hg => ?_) (fun hg => ?_))))
  · (refine Tr.done (by first | exact .inl rfl | exact .inr rfl) rfl (by repeat (first | exact RVs.nil | (apply RVs.cons; (exact RV.tmp rfl)))) (by first | exact Mem.le.refl _ | assumption) (by exact ⟨[_], rfl⟩) ⟨rfl, ?_⟩)
    exact ⟨by rw [if_neg (by unfold okD; omega)]; rfl, rfl⟩
  rotate_left
  · (refine Tr.done (by first | exact .inl rfl | exact .inr rfl) rfl (by repeat (first | exact RVs.nil | (apply RVs.cons; (exact RV.tmp rfl)))) (by first | exact Mem.le.refl _ | assumption) (by exact ⟨[_], rfl⟩) ⟨rfl, ?_⟩)
    exact ⟨by rw [if_neg (by unfold okD; omega)]; rfl, rfl⟩
  · (refine Tr.done (by first | exact .inl rfl | exact .inr rfl) rfl (by repeat (first | exact RVs.nil | (apply RVs.cons; (exact RV.tmp rfl)))) (by first | exact Mem.le.refl _ | assumption) (by exact ⟨[_], rfl⟩) ⟨rfl, ?_⟩)
    exact ⟨by rw [if_neg (by unfold okD; omega)]; rfl, rfl⟩
  refine Tr.loop (α := Nat) (fun i => ⟨61, [(26, .int .i64 i), (25, .int .i64 d.sec.length), (24, .slice A d.sec.length c), (2, .int .i64 0), (1, .pointer (some ⟨_, 0, none⟩))], [], M, _⟩) (fun i => i ≤ d.sec.length ∧ ∀ j s, j < i → d.sec[j]? = some s → s.length = 128) (fun i => d.sec.length - i) 0 ⟨Nat.zero_le _, fun j s h => by omega⟩ (holds_sub (by repeat (first | exact SubFr.nil | refine SubFr.cons rfl ?_)) (by repeat (first | exact DropL.refl | apply DropL.skip))) (fun i hi => ?_)
  obtain ⟨hi, hall⟩ := hi
  by_cases hlt : i < d.sec.length
  · obtain ⟨x, hx⟩ := get_of_lt hlt
    obtain ⟨hA, ch, hat, A1, k1, rfl, hb⟩ := h1.elem hx
    repeat' (first | ((with_reducible refine Tr.step rfl ?_); (first | ((with_reducible refine Knd.move ?_); (refine Exec.stab rfl (Stab.move rfl) rfl ?_)) | ((with_reducible refine Knd.assign ?_); (refine Exec.stab rfl (Stab.assign rfl) rfl ?_)) | ((with_reducible refine Knd.load ?_); ((refine Exec.stab rfl (Stab.loadM rfl (tysOk.get rfl) rfl (by assumption)) rfl ?_))) | ((with_reducible refine Knd.len ?_); ((refine Exec.stab rfl (Stab.len rfl (tysOk.get rfl) rfl) rfl ?_))) | ((with_reducible refine Knd.binOp ?_); (first | (refine Exec.stab rfl (Stab.addi rfl rfl (by omega)) rfl ?_) | (refine Exec.stab rfl (Stab.int rfl rfl rfl) rfl ?_))) | ((with_reducible refine Knd.indexAddr ?_); ((refine Exec.stab rfl (Stab.indexAddr rfl rfl (tysOk.get rfl) rfl (tysOk.get rfl) rfl (by omega) (by omega) (by first | rfl | assumption)) rfl ?_))))) | (with_reducible refine Tr.next ?_) | (with_reducible refine Tr.seq ?_) | (with_reducible refine Tr.region ?_) | (with_reducible refine Tr.nil ?_) | (with_reducible refine Tr.skip ?_) | (with_reducible refine Tr.block ?_) | (with_reducible refine Tr.ret ?_) | (with_reducible refine Tr.then_ret ?_) | (with_reducible refine Tr.in_ret ?_) | (with_reducible refine Tr.in_normal ?_) | (refine Tr.cond_t rfl (by first | (with_reducible assumption) | omega) ?_) | ((refine Tr.condd rfl (fun hg => ?_) (fun hg => ?_))))
    · (refine Tr.done (by first | exact .inl rfl | exact .inr rfl) rfl (by repeat (first | exact RVs.nil | (apply RVs.cons; (exact RV.tmp rfl)))) (by first | exact Mem.le.refl _ | assumption) (by exact ⟨[_], rfl⟩) ⟨rfl, ?_⟩)
      exact ⟨by rw [if_neg (fun hk => by have := hk.2.2.2.1 x (getElem_mem' hx); omega)]; rfl, rfl⟩
    · refine Tr.again (i + 1) ⟨by omega, fun j s hj hs => ?_⟩ (by omega) (holds_sub (by repeat (first | exact SubFr.nil | refine SubFr.cons rfl ?_)) (by repeat (first | exact DropL.refl | apply DropL.skip)))
      by_cases e : j = i
      · subst e; rw [hx] at hs; cases hs; omega
      · exact hall j s (by omega) hs
  · have hsec : ∀ s ∈ d.sec, s.length = 128 := fun s hs => by
      obtain ⟨j, hj⟩ := List.getElem?_of_mem hs
      exact hall j s (by have := (List.getElem?_eq_some_iff.1 hj).1; omega) hj
    clear hall
    repeat' (first | ((with_reducible refine Tr.step rfl ?_); (first | ((with_reducible refine Knd.move ?_); (refine Exec.stab rfl (Stab.move rfl) rfl ?_)) | ((with_reducible refine Knd.load ?_); ((refine Exec.stab rfl (Stab.load rfl (tysOk.get rfl) rfl (by repeat (first | exact Has.here | apply Has.there)) rfl) rfl ?_))) | ((with_reducible refine Knd.fieldAddr ?_); ((refine Exec.stab rfl (Stab.fieldZ rfl (tysOk.get rfl) rfl rfl (tysOk.get rfl) rfl) rfl ?_))) | ((with_reducible refine Knd.len ?_); ((refine Exec.stab rfl (Stab.len rfl (tysOk.get rfl) rfl) rfl ?_))) | ((with_reducible refine Knd.binOp ?_); ((refine Exec.stab rfl (Stab.int rfl rfl rfl) rfl ?_))))) | (with_reducible refine Tr.next ?_) | (with_reducible refine Tr.seq ?_) | (with_reducible refine Tr.region ?_) | (with_reducible refine Tr.nil ?_) | (with_reducible refine Tr.block ?_) | (with_reducible refine Tr.exit ?_) | (with_reducible refine Tr.then_exit ?_) | ((with_reducible refine Tr.in_exit ?_ ?_); (exact rfl)) | (refine Tr.cond_f rfl (by first | (with_reducible assumption) | omega) ?_))
    refine Tr.loop (α := Nat) (fun i => ⟨61, [(37, .int .i64 i), (36, .int .i64 d.pen.length), (35, .slice B d.pen.length k), (2, .int .i64 0), (1, .pointer (some ⟨_, 0, none⟩))], [], M, _⟩) (fun i => i ≤ d.pen.length ∧ ∀ j w, j < i → d.pen[j]? = some w → 0 ≤ w.1 ∧ w.1 < d.sec.length ∧ w.2.length = 128) (fun i => d.pen.length - i) 0 ⟨Nat.zero_le _, fun j s h => by omega⟩ (holds_sub (by repeat (first | exact SubFr.nil | refine SubFr.cons rfl ?_)) (by repeat (first | exact DropL.refl | apply DropL.skip))) (fun i hi => ?_)
    obtain ⟨hi, hall⟩ := hi
    by_cases hlt : i < d.pen.length
    · obtain ⟨x, hx⟩ := get_of_lt hlt
      obtain ⟨hA, ch, hat, A1, k1, rfl, hb⟩ := h2.elem hx
      repeat (first | ((with_reducible refine Tr.step rfl ?_); (first | ((with_reducible refine Knd.load ?_); (first | (refine Exec.stab rfl (Stab.load rfl (tysOk.get rfl) rfl (by repeat (first | exact Has.here | apply Has.there)) rfl) rfl ?_) | (refine Exec.stab rfl (Stab.loadW rfl (tysOk.get rfl) rfl (by repeat (first | exact Has.here | apply Has.there)) rfl) rfl ?_) | (refine Exec.stab rfl (Stab.loadMA rfl (tysOk.get rfl) rfl (by assumption) (by first | rfl | assumption)) rfl ?_))) | ((with_reducible refine Knd.fieldAddr ?_); ((refine Exec.stab rfl (Stab.fieldZ rfl (tysOk.get rfl) rfl rfl (tysOk.get rfl) rfl) rfl ?_))) | ((with_reducible refine Knd.binOp ?_); ((refine Exec.stab rfl (Stab.int rfl rfl rfl) rfl ?_))) | ((with_reducible refine Knd.store ?_); ((refine Exec.storeW rfl rfl (tysOk.get rfl) (by repeat (first | exact Upd.here | apply Upd.there)) rfl rfl (by repeat (first | exact AllOne.nil | refine AllOne.cons (by first | rfl | assumption) ?_)) ?_))) | ((with_reducible refine Knd.alloc ?_); ((refine Exec.alloc (tysOk.get rfl) rfl rfl (fun b => ?_)))) | ((with_reducible refine Knd.indexAddr ?_); ((refine Exec.stab rfl (Stab.indexAddr rfl rfl (tysOk.get rfl) rfl (tysOk.get rfl) rfl (by omega) (by omega) (by first | rfl | assumption)) rfl ?_))))) | (with_reducible refine Tr.next ?_) | (with_reducible refine Tr.seq ?_) | (with_reducible refine Tr.region ?_) | (with_reducible refine Tr.nil ?_) | (with_reducible refine Tr.skip ?_) | (with_reducible refine Tr.block ?_) | (refine Tr.cond_t rfl (by first | (with_reducible assumption) | omega) ?_))
      ((refine Tr.step rfl ?_)); refine Exec.call0 rfl (index_fn M _ d x.1 hD) rfl ?_
      rintro _ _ _ ⟨rfl, rfl⟩
      repeat' (first | ((with_reducible refine Tr.step rfl ?_); (first | ((with_reducible refine Knd.move ?_); (refine Exec.stab rfl (Stab.move rfl) rfl ?_)) | ((with_reducible refine Knd.assign ?_); (refine Exec.stab rfl (Stab.assign rfl) rfl ?_)) | ((with_reducible refine Knd.binOp ?_); ((refine Exec.stab rfl (Stab.addi rfl rfl (by omega)) rfl ?_))) | ((with_reducible refine Knd.pick ?_); (first | (refine Exec.stab rfl (Stab.pick_td rfl (by (with_reducible assumption)) rfl) rfl ?_) | (refine Exec.stab rfl (Stab.pick_fd rfl (by (with_reducible assumption)) rfl) rfl ?_))) | ((with_reducible refine Knd.unOp ?_); ((refine Exec.stab rfl (Stab.notd rfl) rfl ?_))))) | (with_reducible refine Tr.next ?_) | (with_reducible refine Tr.seq ?_) | (with_reducible refine Tr.region ?_) | (with_reducible refine Tr.nil ?_) | ((refine Tr.guard_y' rfl rfl rfl (by (with_reducible assumption)) ?_); (first | ((with_reducible refine Knd.load ?_); ((refine Exec.stab rfl (Stab.load rfl (tysOk.get rfl) rfl (by repeat (first | exact Has.here | apply Has.there)) rfl) rfl ?_))) | ((with_reducible refine Knd.len ?_); ((refine Exec.stab rfl (Stab.len rfl (tysOk.get rfl) rfl) rfl ?_))) | ((with_reducible refine Knd.binOp ?_); ((refine Exec.stab rfl (Stab.int rfl rfl rfl) rfl ?_))))) | (refine Tr.guard_n' rfl rfl rfl (by (with_reducible assumption)) rfl rfl ?_) | (with_reducible refine Tr.skip ?_) | (with_reducible refine Tr.ret ?_) | (with_reducible refine Tr.then_ret ?_) | (with_reducible refine Tr.in_ret ?_) | (with_reducible refine Tr.in_normal ?_) | (refine Tr.cond_bt rfl (by (with_reducible rfl)) ?_) | (((with_reducible refine Knd.fieldAddr ?_); ((refine Exec.stab rfl (Stab.fieldZ rfl (tysOk.get rfl) rfl rfl (tysOk.get rfl) rfl) rfl ?_)))) | (first | (refine Tr.guardd' rfl rfl rfl rfl rfl (fun hg => ?_) (fun hg => ?_)) | (refine Tr.condd rfl (fun hg => ?_) (fun hg => ?_))))
      · (refine Tr.done (by first | exact .inl rfl | exact .inr rfl) rfl (by repeat (first | exact RVs.nil | (apply RVs.cons; (exact RV.tmp rfl)))) (by first | exact Mem.le.refl _ | assumption) (by exact ⟨[_, _], rfl⟩) ⟨rfl, ?_⟩)
        exact ⟨by rw [if_neg (fun hk => by have := hk.2.2.2.2.1 x (getElem_mem' hx); omega)]; rfl, rfl⟩
      · refine Tr.again (i + 1) ⟨by omega, fun j s hj hs => ?_⟩ (by omega) (holds_sub (by repeat (first | exact SubFr.nil | refine SubFr.cons rfl ?_)) (by repeat (first | exact DropL.refl | apply DropL.skip)))
        by_cases e : j = i
        · subst e; rw [hx] at hs; cases hs; omega
        · exact hall j s (by omega) hs
      · (refine Tr.done (by first | exact .inl rfl | exact .inr rfl) rfl (by repeat (first | exact RVs.nil | (apply RVs.cons; (exact RV.tmp rfl)))) (by first | exact Mem.le.refl _ | assumption) (by exact ⟨[_, _], rfl⟩) ⟨rfl, ?_⟩)
        exact ⟨by rw [if_neg (fun hk => by have := hk.2.2.2.2.1 x (getElem_mem' hx); omega)]; rfl, rfl⟩
    · have hpen : ∀ w ∈ d.pen, 0 ≤ w.1 ∧ w.1 < d.sec.length ∧ w.2.length = 128 := fun s hs => by
        obtain ⟨j, hj⟩ := List.getElem?_of_mem hs
        exact hall j s (by have := (List.getElem?_eq_some_iff.1 hj).1; omega) hj
      clear hall
      repeat' (first | ((with_reducible refine Tr.step rfl ?_); (first | ((with_reducible refine Knd.move ?_); (refine Exec.stab rfl (Stab.move rfl) rfl ?_)) | ((with_reducible refine Knd.assign ?_); (refine Exec.stab rfl (Stab.assign rfl) rfl ?_)) | ((with_reducible refine Knd.load ?_); ((refine Exec.stab rfl (Stab.load rfl (tysOk.get rfl) rfl (by repeat (first | exact Has.here | apply Has.there)) rfl) rfl ?_))) | ((with_reducible refine Knd.fieldAddr ?_); ((refine Exec.stab rfl (Stab.fieldZ rfl (tysOk.get rfl) rfl rfl (tysOk.get rfl) rfl) rfl ?_))) | ((with_reducible refine Knd.binOp ?_); ((refine Exec.stab rfl (Stab.int rfl rfl rfl) rfl ?_))) | ((with_reducible refine Knd.pick ?_); (first | (refine Exec.stab rfl (Stab.pick_td rfl (by (with_reducible assumption)) rfl) rfl ?_) | (refine Exec.stab rfl (Stab.pick_fd rfl (by (with_reducible assumption)) rfl) rfl ?_))))) | (with_reducible refine Tr.next ?_) | (with_reducible refine Tr.seq ?_) | (with_reducible refine Tr.region ?_) | (with_reducible refine Tr.nil ?_) | ((refine Tr.guard_y' rfl rfl rfl (by (with_reducible assumption)) ?_); (first | ((with_reducible refine Knd.load ?_); ((refine Exec.stab rfl (Stab.load rfl (tysOk.get rfl) rfl (by repeat (first | exact Has.here | apply Has.there)) rfl) rfl ?_))) | ((with_reducible refine Knd.binOp ?_); ((refine Exec.stab rfl (Stab.int rfl rfl rfl) rfl ?_))))) | (refine Tr.guard_n' rfl rfl rfl (by (with_reducible assumption)) rfl rfl ?_) | (with_reducible refine Tr.skip ?_) | (with_reducible refine Tr.exit ?_) | (with_reducible refine Tr.ret ?_) | (with_reducible refine Tr.then_exit ?_) | (with_reducible refine Tr.then_ret ?_) | ((with_reducible refine Tr.in_exit ?_ ?_); (exact rfl)) | (refine Tr.cond_bt rfl (by (with_reducible rfl)) ?_) | (refine Tr.cond_f rfl (by first | (with_reducible assumption) | omega) ?_) | (((with_reducible refine Knd.fieldAddr ?_); ((refine Exec.stab rfl (Stab.fieldZ rfl (tysOk.get rfl) rfl rfl (tysOk.get rfl) rfl) rfl ?_)))) | (first | (refine Tr.guardd' rfl rfl rfl rfl rfl (fun hg => ?_) (fun hg => ?_)) | (refine Tr.condd rfl (fun hg => ?_) (fun hg => ?_))))
      · (refine Tr.done (by first | exact .inl rfl | exact .inr rfl) rfl (by repeat (first | exact RVs.nil | (apply RVs.cons; (exact RV.tmp rfl)))) (by first | exact Mem.le.refl _ | assumption) (by exact ⟨[_], rfl⟩) ⟨rfl, ?_⟩)
        exact ⟨by rw [if_neg (by unfold okD; omega)]; rfl, rfl⟩
      · (refine Tr.done (by first | exact .inl rfl | exact .inr rfl) rfl (by repeat (first | exact RVs.nil | (apply RVs.cons; (exact RV.tmp rfl)))) (by first | exact Mem.le.refl _ | assumption) (by exact ⟨[_], rfl⟩) ⟨rfl, ?_⟩)
        exact ⟨by rw [if_pos ⟨by omega, by omega, by omega, hsec, hpen, by omega, by omega⟩]; rfl, rfl⟩
      · (refine Tr.done (by first | exact .inl rfl | exact .inr rfl) rfl (by repeat (first | exact RVs.nil | (apply RVs.cons; (exact RV.tmp rfl)))) (by first | exact Mem.le.refl _ | assumption) (by exact ⟨[_], rfl⟩) ⟨rfl, ?_⟩)
        exact ⟨by rw [if_neg (by unfold okD; omega)]; rfl, rfl⟩
theorem check_y (M : Mem) (v : Value) (d : Dsk) (h : RDisk M v d) (hk : okD d) : Fn0 Try.prog 55 [v] M (fun r M' => r = .int .i64 0 ∧ M = M') := by
  have := check_fn M v d h; rwa [if_pos hk] at this
theorem check_n (M : Mem) (v : Value) (d : Dsk) (h : RDisk M v d) (hk : ¬ okD d) : Fn0 Try.prog 55 [v] M (fun r M' => r = .int .i64 440 ∧ M = M') := by
  have := check_fn M v d h; rwa [if_neg hk] at this

def runs (d : Dsk) : Prop := okD d ∧ d.stop = false
instance (d : Dsk) : Decidable (runs d) := by unfold runs; infer_instance

set_option maxHeartbeats 1000000 in
theorem running_y (M : Mem) (v : Value) (d : Dsk) (h : RDisk M v d) (hk : runs d) : Fn0 Try.prog 50 [v] M (fun r M' => r = .int .i64 0 ∧ M = M') := by
  have hD := h
  obtain ⟨A, c, B, k, rfl, h1, h2⟩ := h
  have hs : d.stop = false := hk.2
  refine Fn.intro Try.func50 rfl rfl Try.ntmps50 rfl fun E F => ?_
  repeat (first | ((with_reducible refine Tr.step rfl ?_); (first | ((with_reducible refine Knd.assign ?_); (refine Exec.stab rfl (Stab.assign rfl) rfl ?_)) | ((with_reducible refine Knd.load ?_); ((refine Exec.stab rfl (Stab.loadW rfl (tysOk.get rfl) rfl (by repeat (first | exact Has.here | apply Has.there)) rfl) rfl ?_))) | ((with_reducible refine Knd.box ?_); ((refine Exec.box rfl rfl (fun b => ?_)))))) | (with_reducible refine Tr.next ?_) | (with_reducible refine Tr.seq ?_) | (with_reducible refine Tr.region ?_) | (with_reducible refine Tr.nil ?_))
  ((refine Tr.step rfl ?_)); refine Exec.call0 rfl (check_y M _ d hD hk.1) rfl ?_
  rintro _ _ _ ⟨rfl, rfl⟩
  repeat' (first | ((with_reducible refine Tr.step rfl ?_); (first | ((with_reducible refine Knd.move ?_); (refine Exec.stab rfl (Stab.move rfl) rfl ?_)) | ((with_reducible refine Knd.assign ?_); (refine Exec.stab rfl (Stab.assign rfl) rfl ?_)) | ((with_reducible refine Knd.load ?_); ((refine Exec.stab rfl (Stab.load rfl (tysOk.get rfl) rfl (by repeat (first | exact Has.here | apply Has.there)) rfl) rfl ?_))) | ((with_reducible refine Knd.fieldAddr ?_); ((refine Exec.stab rfl (Stab.fieldZ rfl (tysOk.get rfl) rfl rfl (tysOk.get rfl) rfl) rfl ?_))) | ((with_reducible refine Knd.binOp ?_); ((refine Exec.stab rfl (Stab.int rfl rfl rfl) rfl ?_))))) | (with_reducible refine Tr.next ?_) | (with_reducible refine Tr.seq ?_) | (with_reducible refine Tr.region ?_) | (with_reducible refine Tr.nil ?_) | (with_reducible refine Tr.skip ?_) | (with_reducible refine Tr.ret ?_) | (refine Tr.cond_bf rfl (by first | (with_reducible rfl) | (with_reducible assumption)) ?_) | (refine Tr.cond_f rfl (by (with_reducible exact (not_not_intro rfl))) ?_))
  (refine Tr.done (by first | exact .inl rfl | exact .inr rfl) rfl (by repeat (first | exact RVs.nil | (apply RVs.cons; (exact RV.tmp rfl)))) (by first | exact Mem.le.refl _ | assumption) (by exact ⟨[_], rfl⟩) ⟨rfl, ?_⟩)
  exact ⟨rfl, rfl⟩
set_option maxHeartbeats 1000000 in
theorem running_n (M : Mem) (v : Value) (d : Dsk) (h : RDisk M v d) (hk : ¬ runs d) : Fn0 Try.prog 50 [v] M (fun r M' => r = .int .i64 440 ∧ M = M') := by
  have hD := h
  obtain ⟨A, c, B, k, rfl, h1, h2⟩ := h
  refine Fn.intro Try.func50 rfl rfl Try.ntmps50 rfl fun E F => ?_
  repeat (first | ((with_reducible refine Tr.step rfl ?_); (first | ((with_reducible refine Knd.assign ?_); (refine Exec.stab rfl (Stab.assign rfl) rfl ?_)) | ((with_reducible refine Knd.load ?_); ((refine Exec.stab rfl (Stab.loadW rfl (tysOk.get rfl) rfl (by repeat (first | exact Has.here | apply Has.there)) rfl) rfl ?_))) | ((with_reducible refine Knd.box ?_); ((refine Exec.box rfl rfl (fun b => ?_)))))) | (with_reducible refine Tr.next ?_) | (with_reducible refine Tr.seq ?_) | (with_reducible refine Tr.region ?_) | (with_reducible refine Tr.nil ?_))
  by_cases hok : okD d
  · have hs : d.stop = true := by
      cases h : d.stop with
      | true => rfl
      | false => exact absurd ⟨hok, h⟩ hk
    ((refine Tr.step rfl ?_)); refine Exec.call0 rfl (check_y M _ d hD hok) rfl ?_
    rintro _ _ _ ⟨rfl, rfl⟩
    repeat' (first | ((with_reducible refine Tr.step rfl ?_); (first | ((with_reducible refine Knd.move ?_); (refine Exec.stab rfl (Stab.move rfl) rfl ?_)) | ((with_reducible refine Knd.assign ?_); (refine Exec.stab rfl (Stab.assign rfl) rfl ?_)) | ((with_reducible refine Knd.load ?_); ((refine Exec.stab rfl (Stab.load rfl (tysOk.get rfl) rfl (by repeat (first | exact Has.here | apply Has.there)) rfl) rfl ?_))) | ((with_reducible refine Knd.fieldAddr ?_); ((refine Exec.stab rfl (Stab.fieldZ rfl (tysOk.get rfl) rfl rfl (tysOk.get rfl) rfl) rfl ?_))) | ((with_reducible refine Knd.binOp ?_); ((refine Exec.stab rfl (Stab.int rfl rfl rfl) rfl ?_))))) | (with_reducible refine Tr.next ?_) | (with_reducible refine Tr.seq ?_) | (with_reducible refine Tr.region ?_) | (with_reducible refine Tr.nil ?_) | (with_reducible refine Tr.skip ?_) | (with_reducible refine Tr.ret ?_) | (with_reducible refine Tr.then_ret ?_) | (refine Tr.cond_bt rfl (by first | (with_reducible rfl) | (with_reducible assumption)) ?_) | (refine Tr.cond_f rfl (by first | (with_reducible assumption) | (with_reducible exact (not_not_intro rfl))) ?_))
    (refine Tr.done (by first | exact .inl rfl | exact .inr rfl) rfl (by repeat (first | exact RVs.nil | (apply RVs.cons; (exact RV.tmp rfl)))) (by first | exact Mem.le.refl _ | assumption) (by exact ⟨[_], rfl⟩) ⟨rfl, ?_⟩)
    exact ⟨rfl, rfl⟩
  · ((refine Tr.step rfl ?_)); refine Exec.call0 rfl (check_n M _ d hD hok) rfl ?_
    rintro _ _ _ ⟨rfl, rfl⟩
    repeat' (first | ((with_reducible refine Tr.step rfl ?_); (first | ((with_reducible refine Knd.move ?_); (refine Exec.stab rfl (Stab.move rfl) rfl ?_)) | ((with_reducible refine Knd.assign ?_); (refine Exec.stab rfl (Stab.assign rfl) rfl ?_)) | ((with_reducible refine Knd.binOp ?_); ((refine Exec.stab rfl (Stab.int rfl rfl rfl) rfl ?_))))) | (with_reducible refine Tr.next ?_) | (with_reducible refine Tr.seq ?_) | (with_reducible refine Tr.region ?_) | (with_reducible refine Tr.nil ?_) | (with_reducible refine Tr.ret ?_) | (with_reducible refine Tr.then_ret ?_) | (refine Tr.cond_t rfl (by first | (with_reducible assumption) | omega) ?_))
    (refine Tr.done (by first | exact .inl rfl | exact .inr rfl) rfl (by repeat (first | exact RVs.nil | (apply RVs.cons; (exact RV.tmp rfl)))) (by first | exact Mem.le.refl _ | assumption) (by exact ⟨[_], rfl⟩) ⟨rfl, ?_⟩)
    exact ⟨rfl, rfl⟩

set_option maxHeartbeats 400000 in
theorem restart_fn (M : Mem) (v : Value) (d : Dsk) (h : RDisk M v d) :
    Fn0 Try.prog 30 [v] M (fun r M' => RDisk M r ⟨d.sec, [], -1, false⟩ ∧ M = M') := by
  obtain ⟨A, c, B, k, rfl, h1, h2⟩ := h
  refine Fn.intro Try.func30 rfl rfl Try.ntmps30 rfl fun E F => ?_
  repeat (first | ((with_reducible refine Tr.step rfl ?_); (first | ((with_reducible refine Knd.load ?_); ((refine Exec.stab rfl (Stab.loadW rfl (tysOk.get rfl) rfl (by repeat (first | exact Has.here | apply Has.there)) rfl) rfl ?_))) | ((with_reducible refine Knd.fieldAddr ?_); ((refine Exec.stab rfl (Stab.fieldZ rfl (tysOk.get rfl) rfl rfl (tysOk.get rfl) rfl) rfl ?_))) | ((with_reducible refine Knd.store ?_); (first | (refine Exec.store rfl rfl (tysOk.get rfl) rfl (by first | rfl | assumption) (by repeat (first | exact Upd.here | apply Upd.there)) (by repeat (first | exact SetL.z | apply SetL.s)) ?_) | (refine Exec.storeW rfl rfl (tysOk.get rfl) (by repeat (first | exact Upd.here | apply Upd.there)) rfl rfl (by repeat (first | exact AllOne.nil | refine AllOne.cons (by first | rfl | assumption) ?_)) ?_))) | ((with_reducible refine Knd.box ?_); ((refine Exec.box rfl rfl (fun b => ?_)))) | ((with_reducible refine Knd.alloc ?_); ((refine Exec.alloc (tysOk.get rfl) rfl rfl (fun b => ?_)))))) | (with_reducible refine Tr.next ?_) | (with_reducible refine Tr.seq ?_) | (with_reducible refine Tr.region ?_) | (with_reducible refine Tr.nil ?_) | (with_reducible refine Tr.ret ?_))
  (refine Tr.done (by first | exact .inl rfl | exact .inr rfl) rfl (by repeat (first | exact RVs.nil | (apply RVs.cons; (exact RV.cellW (by rfl) (tysOk.get (by rfl)) (by rfl) (by repeat (first | exact Has.here | apply Has.there)) (by first | rfl | assumption))))) (by first | exact Mem.le.refl _ | assumption) (by exact ⟨[_, _], rfl⟩) ⟨rfl, ?_⟩)
  exact ⟨⟨A, c, none, 0, rfl, h1, SlOf.nil _ _ _⟩, rfl⟩
/-- A pair of a disk and an error. -/
def RPair (M : Mem) (r : Value) (p : Dsk × Int) : Prop := ∃ v, r = .tuple #[v, .int .i64 p.2] ∧ RDisk M v p.1
def stopF (d : Dsk) (left : Int) : Dsk × Int := if runs d then (if left < 0 ∨ 65536 < left then (zD, 1) else ({ d with left := left }, 0)) else (zD, 440)
set_option maxHeartbeats 1000000 in
theorem stop_fn (M : Mem) (v : Value) (d : Dsk) (left : Int) (h : RDisk M v d) :
    Fn0 Try.prog 29 [v, .int .i64 left] M (fun r M' => RPair M r (stopF d left) ∧ M = M') := by
  have hD := h
  obtain ⟨A, c, B, k, rfl, h1, h2⟩ := h
  refine Fn.intro Try.func29 rfl rfl Try.ntmps29 rfl fun E F => ?_
  by_cases hk : runs d
  · repeat (first | ((with_reducible refine Tr.step rfl ?_); (first | ((with_reducible refine Knd.assign ?_); (refine Exec.stab rfl (Stab.assign rfl) rfl ?_)) | ((with_reducible refine Knd.load ?_); ((refine Exec.stab rfl (Stab.loadW rfl (tysOk.get rfl) rfl (by repeat (first | exact Has.here | apply Has.there)) rfl) rfl ?_))) | ((with_reducible refine Knd.box ?_); ((refine Exec.box rfl rfl (fun b => ?_)))) | ((with_reducible refine Knd.alloc ?_); ((refine Exec.alloc (tysOk.get rfl) rfl rfl (fun b => ?_)))))) | (with_reducible refine Tr.next ?_) | (with_reducible refine Tr.seq ?_) | (with_reducible refine Tr.region ?_) | (with_reducible refine Tr.nil ?_))
    ((refine Tr.step rfl ?_)); refine Exec.call0 rfl (running_y M _ d hD hk) rfl ?_
    rintro _ _ _ ⟨rfl, rfl⟩
    repeat' (first | ((with_reducible refine Tr.step rfl ?_); (first | ((with_reducible refine Knd.move ?_); (refine Exec.stab rfl (Stab.move rfl) rfl ?_)) | ((with_reducible refine Knd.assign ?_); (refine Exec.stab rfl (Stab.assign rfl) rfl ?_)) | ((with_reducible refine Knd.load ?_); ((refine Exec.stab rfl (Stab.loadW rfl (tysOk.get rfl) rfl (by repeat (first | exact Has.here | apply Has.there)) rfl) rfl ?_))) | ((with_reducible refine Knd.fieldAddr ?_); ((refine Exec.stab rfl (Stab.fieldZ rfl (tysOk.get rfl) rfl rfl (tysOk.get rfl) rfl) rfl ?_))) | ((with_reducible refine Knd.binOp ?_); ((refine Exec.stab rfl (Stab.int rfl rfl rfl) rfl ?_))) | ((with_reducible refine Knd.pick ?_); (first | (refine Exec.stab rfl (Stab.pick_td rfl (by (with_reducible assumption)) rfl) rfl ?_) | (refine Exec.stab rfl (Stab.pick_fd rfl (by (with_reducible assumption)) rfl) rfl ?_))) | ((with_reducible refine Knd.store ?_); (first | (refine Exec.store rfl rfl (tysOk.get rfl) rfl (by first | rfl | assumption) (by repeat (first | exact Upd.here | apply Upd.there)) (by repeat (first | exact SetL.z | apply SetL.s)) ?_) | (refine Exec.storeW rfl rfl (tysOk.get rfl) (by repeat (first | exact Upd.here | apply Upd.there)) rfl rfl (by repeat (first | exact AllOne.nil | refine AllOne.cons (by first | rfl | assumption) ?_)) ?_))) | ((with_reducible refine Knd.build ?_); ((refine Exec.stab rfl (Stab.build tysOk rfl rfl rfl rfl (by repeat (exact BuildP.nil))) rfl ?_))))) | (with_reducible refine Tr.next ?_) | (with_reducible refine Tr.seq ?_) | (with_reducible refine Tr.region ?_) | (with_reducible refine Tr.nil ?_) | ((refine Tr.guard_y' rfl rfl rfl (by (with_reducible assumption)) ?_); (((with_reducible refine Knd.binOp ?_); ((refine Exec.stab rfl (Stab.int rfl rfl rfl) rfl ?_))))) | (refine Tr.guard_n' rfl rfl rfl (by (with_reducible assumption)) rfl rfl ?_) | (with_reducible refine Tr.skip ?_) | (with_reducible refine Tr.ret ?_) | (with_reducible refine Tr.then_ret ?_) | (refine Tr.cond_bt rfl (by (with_reducible rfl)) ?_) | (refine Tr.cond_f rfl (by first | (with_reducible assumption) | (with_reducible exact (not_not_intro rfl))) ?_) | (((with_reducible refine Knd.move ?_); (refine Exec.stab rfl (Stab.move rfl) rfl ?_))) | (first | (refine Tr.guardd' rfl rfl rfl rfl rfl (fun hg => ?_) (fun hg => ?_)) | (refine Tr.condd rfl (fun hg => ?_) (fun hg => ?_))))
    · (refine Tr.done (by first | exact .inl rfl | exact .inr rfl) rfl (by repeat (first | exact RVs.nil | (apply RVs.cons; (first | exact RV.tmp rfl | exact RV.cellW (by rfl) (tysOk.get (by rfl)) (by rfl) (by repeat (first | exact Has.here | apply Has.there)) (by first | rfl | assumption))))) (by first | exact Mem.le.refl _ | assumption) (by exact ⟨[_, _], rfl⟩) ⟨rfl, ?_⟩)
      exact ⟨by unfold stopF; rw [if_pos hk, if_pos (by omega)]; exact ⟨_, rfl, RDisk.zero M⟩, rfl⟩
    · (refine Tr.done (by first | exact .inl rfl | exact .inr rfl) rfl (by repeat (first | exact RVs.nil | (apply RVs.cons; (first | exact RV.tmp rfl | exact RV.cellW (by rfl) (tysOk.get (by rfl)) (by rfl) (by repeat (first | exact Has.here | apply Has.there)) (by first | rfl | assumption))))) (by first | exact Mem.le.refl _ | assumption) (by exact ⟨[_, _], rfl⟩) ⟨rfl, ?_⟩)
      exact ⟨by unfold stopF; rw [if_pos hk, if_neg (by omega)]; exact ⟨_, rfl, A, c, B, k, rfl, h1, h2⟩, rfl⟩
    · (refine Tr.done (by first | exact .inl rfl | exact .inr rfl) rfl (by repeat (first | exact RVs.nil | (apply RVs.cons; (first | exact RV.tmp rfl | exact RV.cellW (by rfl) (tysOk.get (by rfl)) (by rfl) (by repeat (first | exact Has.here | apply Has.there)) (by first | rfl | assumption))))) (by first | exact Mem.le.refl _ | assumption) (by exact ⟨[_, _], rfl⟩) ⟨rfl, ?_⟩)
      exact ⟨by unfold stopF; rw [if_pos hk, if_pos (by omega)]; exact ⟨_, rfl, RDisk.zero M⟩, rfl⟩
  · repeat (first | ((with_reducible refine Tr.step rfl ?_); (first | ((with_reducible refine Knd.assign ?_); (refine Exec.stab rfl (Stab.assign rfl) rfl ?_)) | ((with_reducible refine Knd.load ?_); ((refine Exec.stab rfl (Stab.loadW rfl (tysOk.get rfl) rfl (by repeat (first | exact Has.here | apply Has.there)) rfl) rfl ?_))) | ((with_reducible refine Knd.box ?_); ((refine Exec.box rfl rfl (fun b => ?_)))) | ((with_reducible refine Knd.alloc ?_); ((refine Exec.alloc (tysOk.get rfl) rfl rfl (fun b => ?_)))))) | (with_reducible refine Tr.next ?_) | (with_reducible refine Tr.seq ?_) | (with_reducible refine Tr.region ?_) | (with_reducible refine Tr.nil ?_))
    ((refine Tr.step rfl ?_)); refine Exec.call0 rfl (running_n M _ d hD hk) rfl ?_
    rintro _ _ _ ⟨rfl, rfl⟩
    repeat' (first | ((with_reducible refine Tr.step rfl ?_); (first | ((with_reducible refine Knd.move ?_); (refine Exec.stab rfl (Stab.move rfl) rfl ?_)) | ((with_reducible refine Knd.assign ?_); (refine Exec.stab rfl (Stab.assign rfl) rfl ?_)) | ((with_reducible refine Knd.binOp ?_); ((refine Exec.stab rfl (Stab.int rfl rfl rfl) rfl ?_))) | ((with_reducible refine Knd.store ?_); ((refine Exec.storeW rfl rfl (tysOk.get rfl) (by repeat (first | exact Upd.here | apply Upd.there)) rfl rfl (by repeat (first | exact AllOne.nil | refine AllOne.cons (by first | rfl | assumption) ?_)) ?_))) | ((with_reducible refine Knd.build ?_); ((refine Exec.stab rfl (Stab.build tysOk rfl rfl rfl rfl (by repeat (exact BuildP.nil))) rfl ?_))))) | (with_reducible refine Tr.next ?_) | (with_reducible refine Tr.seq ?_) | (with_reducible refine Tr.region ?_) | (with_reducible refine Tr.nil ?_) | (with_reducible refine Tr.ret ?_) | (with_reducible refine Tr.then_ret ?_) | (refine Tr.cond_t rfl (by first | (with_reducible assumption) | omega) ?_))
    (refine Tr.done (by first | exact .inl rfl | exact .inr rfl) rfl (by repeat (first | exact RVs.nil | (apply RVs.cons; (first | exact RV.tmp rfl | exact RV.cellW (by rfl) (tysOk.get (by rfl)) (by rfl) (by repeat (first | exact Has.here | apply Has.there)) (by first | rfl | assumption))))) (by first | exact Mem.le.refl _ | assumption) (by exact ⟨[_, _], rfl⟩) ⟨rfl, ?_⟩)
    exact ⟨by unfold stopF; rw [if_neg hk]; exact ⟨_, rfl, RDisk.zero M⟩, rfl⟩
end Go.Proofs.Ytkbggengagockaa
/-
  The disk: the contracts of sector, double, Clip, Clone, the reference's Check and Stop, and New.
  Conditions: none.
-/
namespace Go.Proofs.Ytkbggengagockaa
open Go Bf
attribute [local irreducible] Tr Exec Stab HasTy Go.Addr.add IntKind.wrap

def pad (b : List UInt8) : List UInt8 := b ++ List.replicate (128 - b.length) 0
theorem pad_length {b : List UInt8} (h : b.length ≤ 128) : (pad b).length = 128 := by simp [pad]; omega
theorem pad_full {b : List UInt8} (h : b.length = 128) : pad b = b := by simp [pad, h]
theorem byteV_replicate (n : Nat) : List.replicate n (Value.int .u8 0) = byteV (List.replicate n 0) := by simp [byteV]
theorem byteV_append (a b : List UInt8) : byteV (a ++ b) = byteV a ++ byteV b := by simp [byteV]
theorem BSl.of_box {M : Mem} {b t : Nat} {bs : List UInt8} (h : (box b t (byteV bs)).ok M) (hl : bs.length ≤ 9223372036854775807) : BSl M (.slice (some ⟨b, 0, none⟩) bs.length bs.length) bs := by
  have hr := Row.of_box (n := bs.length) (sz := 1) h (by simp) (fun u hu => byteV_one bs u (List.mem_of_mem_take hu))
  have e : (byteV bs).take (bs.length * 1) = byteV bs := by rw [List.take_of_length_le]; simp
  rw [e] at hr
  exact ⟨_, _, rfl, Nat.le_refl _, hl, fun h => (by cases h), hr⟩

set_option maxHeartbeats 1000000 in
theorem sector_fn (M : Mem) (A : Option Addr) (c : Nat) (bs : List UInt8) (h : BSl M (.slice A bs.length c) bs) (hl : bs.length ≤ 128) :
    Fn0 Try.prog 53 [.slice A bs.length c] M (fun r M' => ∃ A' k', r = .slice A' (pad bs).length k' ∧ BSl M' (.slice A' (pad bs).length k') (pad bs)) := by
  obtain ⟨A', c', e, h2, h3, h4, h5⟩ := h
  cases e
  refine Fn.intro Try.func53 rfl rfl Try.ntmps53 rfl fun E F => ?_
  repeat (first | ((with_reducible refine Tr.step rfl ?_); (first | ((with_reducible refine Knd.move ?_); (refine Exec.stab rfl (Stab.move rfl) rfl ?_)) | ((with_reducible refine Knd.assign ?_); (refine Exec.stab rfl (Stab.assign rfl) rfl ?_)) | ((with_reducible refine Knd.makeSlice ?_); (refine Exec.make rfl rfl (tysOk.get rfl) rfl (tysOk.get rfl) rfl rfl rfl (by omega) (by omega) (by first | omega | (simp; done) | (simp; omega)) (by omega) rfl (fun b => ?_))))) | (with_reducible refine Tr.next ?_) | (with_reducible refine Tr.seq ?_) | (with_reducible refine Tr.region ?_) | (with_reducible refine Tr.nil ?_))
  ((refine Tr.step rfl ?_))
  refine Exec.copy (news := byteV bs) rfl rfl (tysOk.get rfl) rfl (tysOk.get rfl) rfl (Src.row_min h5) (by simp; omega) (byteV_one bs) (by simp; omega) Upd.here rfl ?_
  repeat (first | ((with_reducible refine Tr.step rfl ?_); (first | ((with_reducible refine Knd.move ?_); (refine Exec.stab rfl (Stab.move rfl) rfl ?_)) | ((with_reducible refine Knd.assign ?_); (refine Exec.stab rfl (Stab.assign rfl) rfl ?_)))) | (with_reducible refine Tr.next ?_) | (with_reducible refine Tr.seq ?_) | (with_reducible refine Tr.region ?_) | (with_reducible refine Tr.nil ?_) | (with_reducible refine Tr.ret ?_))
  have e : List.take 0 (List.replicate (Int.toNat 128) (Value.int .u8 0)) ++ byteV bs ++ List.drop (0 + (byteV bs).length) (List.replicate (Int.toNat 128) (Value.int .u8 0)) = byteV (pad bs) := by
    rw [pad, byteV_append, ← byteV_replicate, List.drop_replicate]; simp only [List.take_zero, List.nil_append, byteV_length, Nat.zero_add]; rfl
  rw [e]
  refine Tr.publish (by repeat (first | exact Del.here | apply Del.there)) (fun M' hm hok => ?_)
  (refine Tr.done (by first | exact .inl rfl | exact .inr rfl) rfl (by repeat (first | exact RVs.nil | (apply RVs.cons; (exact RV.tmp rfl)))) (by first | exact Mem.le.refl _ | assumption) (by exact ⟨[], rfl⟩) ⟨rfl, ?_⟩)
  have hp := pad_length hl
  have := BSl.of_box hok (by omega)
  rw [hp] at this ⊢
  exact ⟨_, _, rfl, this⟩

/-- a sector whose halves begin with a byte -/
def dbl (c : UInt8) : List UInt8 := (List.replicate 128 0 |>.set 0 c |>.set 64 c)
theorem byteV_set (l : List UInt8) (i : Nat) (c : UInt8) : (byteV l).set i (.int .u8 (c.toNat : Int)) = byteV (l.set i c) := by simp [byteV]
set_option maxHeartbeats 1000000 in
theorem clip_fn (M : Mem) (A : Option Addr) (n c : Nat) (hc : n ≤ c) (hm : c ≤ 9223372036854775807) :
    Fn0 Try.prog 52 [.slice A n c] M (fun r M' => r = .slice A n n ∧ M = M') := by
  refine Fn.intro Try.func52 rfl rfl Try.ntmps52 rfl fun E F => ?_
  repeat (first | ((with_reducible refine Tr.step rfl ?_); (first | ((with_reducible refine Knd.move ?_); (refine Exec.stab rfl (Stab.move rfl) rfl ?_)) | ((with_reducible refine Knd.assign ?_); (refine Exec.stab rfl (Stab.assign rfl) rfl ?_)) | ((with_reducible refine Knd.len ?_); ((refine Exec.stab rfl (Stab.len rfl (tysOk.get rfl) rfl) rfl ?_))) | ((with_reducible refine Knd.slice ?_); ((refine Exec.stab rfl (Stab.slice_hm rfl rfl rfl (tysOk.get rfl) rfl (tysOk.get rfl) (by omega) (by omega) (by omega)) rfl ?_))))) | (with_reducible refine Tr.next ?_) | (with_reducible refine Tr.seq ?_) | (with_reducible refine Tr.region ?_) | (with_reducible refine Tr.nil ?_) | (with_reducible refine Tr.ret ?_))
  (refine Tr.done (by first | exact .inl rfl | exact .inr rfl) rfl (by repeat (first | exact RVs.nil | (apply RVs.cons; (exact RV.tmp rfl)))) (by first | exact Mem.le.refl _ | assumption) (by exact ⟨[], rfl⟩) ⟨rfl, ?_⟩)
  exact ⟨rfl, rfl⟩

theorem SlOf.of_own {α : Type} {sz e c : Nat} {R : Mem → List Value → α → Prop} {M : Mem} {A : Option Addr} {xs : List α} {cells : List Value} (h : (ownS e sz A xs.length c cells).ok M) (hc : c ≤ 9223372036854775807)
    (hR : ∀ i x, xs[i]? = some x → R M ((cells.drop (i * sz)).take sz) x) : SlOf sz R M (.slice A xs.length c) xs := by
  obtain ⟨h1, h2, h3⟩ := Row.of_own h
  exact ⟨A, c, cells, rfl, h2, hc, h3, h1, hR⟩

set_option maxHeartbeats 1000000 in
theorem clone_fn (M : Mem) (A : Option Addr) (c : Nat) (l : List (List UInt8)) (h : SlOf 1 RSec M (.slice A l.length c) l) (hl : l.length ≤ 4096) :
    Fn0 Try.prog 54 [.slice A l.length c] M (fun r M' => ∃ A' c', r = .slice A' l.length c' ∧ SlOf 1 RSec M' (.slice A' l.length c') l) := by
  obtain ⟨A', c', cells, e, h2, h3, h4, h5, h6⟩ := h
  cases e
  refine Fn.intro Try.func54 rfl rfl Try.ntmps54 rfl fun E F => ?_
  by_cases hA : A = none
  · have hl0 := h4 hA
    have hnil : l = [] := List.eq_nil_of_length_eq_zero hl0
    subst hnil
    repeat (first | ((with_reducible refine Tr.step rfl ?_); (first | ((with_reducible refine Knd.move ?_); (refine Exec.stab rfl (Stab.move rfl) rfl ?_)) | ((with_reducible refine Knd.assign ?_); (refine Exec.stab rfl (Stab.assign rfl) rfl ?_)) | ((with_reducible refine Knd.binOp ?_); ((refine Exec.stab rfl (Stab.slnil rfl (tysOk.get rfl) rfl) rfl ?_))))) | (with_reducible refine Tr.next ?_) | (with_reducible refine Tr.seq ?_) | (with_reducible refine Tr.region ?_) | (with_reducible refine Tr.nil ?_) | (with_reducible refine Tr.ret ?_) | (with_reducible refine Tr.then_ret ?_) | (refine Tr.cond_t rfl (by (with_reducible assumption)) ?_))
    (refine Tr.done (by first | exact .inl rfl | exact .inr rfl) rfl (by repeat (first | exact RVs.nil | (apply RVs.cons; (exact RV.tmp rfl)))) (by first | exact Mem.le.refl _ | assumption) (by exact ⟨[], rfl⟩) ⟨rfl, ?_⟩)
    exact ⟨none, 0, rfl, SlOf.nil _ _ _⟩
  · repeat (first | ((with_reducible refine Tr.step rfl ?_); (first | ((with_reducible refine Knd.move ?_); (refine Exec.stab rfl (Stab.move rfl) rfl ?_)) | ((with_reducible refine Knd.assign ?_); (refine Exec.stab rfl (Stab.assign rfl) rfl ?_)) | ((with_reducible refine Knd.binOp ?_); ((refine Exec.stab rfl (Stab.slnil rfl (tysOk.get rfl) rfl) rfl ?_))) | ((with_reducible refine Knd.buildSlice ?_); ((refine Exec.buildSlice (tysOk.get rfl) rfl (tysOk.get rfl) rfl rfl rfl rfl rfl (by repeat (exact BuildP.nil)) rfl (fun b => ?_)))))) | (with_reducible refine Tr.next ?_) | (with_reducible refine Tr.seq ?_) | (with_reducible refine Tr.region ?_) | (with_reducible refine Tr.nil ?_) | (with_reducible refine Tr.skip ?_) | (refine Tr.cond_f rfl (by (with_reducible assumption)) ?_))
    refine Tr.box_own 1 0 (by repeat (first | exact Upd.here | apply Upd.there)) rfl (by intro u hu; cases hu) (by simp [maxLen]) ?_
    ((refine Tr.step rfl ?_))
    refine Exec.append (news := cells) rfl rfl (tysOk.get rfl) rfl (tysOk.get rfl) rfl rfl rfl rfl (by repeat (first | exact Del.here | apply Del.there)) (Src.row h5) h5.len h5.one (by omega) (by omega) rfl (fun A' c' hc' => ?_)
    simp only [Nat.zero_add, List.nil_append]
    repeat (first | ((with_reducible refine Tr.step rfl ?_); (((with_reducible refine Knd.assign ?_); (refine Exec.stab rfl (Stab.assign rfl) rfl ?_)))) | (with_reducible refine Tr.next ?_) | (with_reducible refine Tr.nil ?_) | (with_reducible refine Tr.ret ?_))
    refine Tr.publish (by repeat (first | exact Del.here | apply Del.there)) (fun M' hm hok => ?_)
    (refine Tr.done (by first | exact .inl rfl | exact .inr rfl) rfl (by repeat (first | exact RVs.nil | (apply RVs.cons; (exact RV.tmp rfl)))) (by first | exact Mem.le.refl _ | assumption) (by exact ⟨[], rfl⟩) ⟨rfl, ?_⟩)
    exact ⟨A', c', rfl, SlOf.of_own hok hc' (fun i x hx => RSec.mono _ _ _ _ hm (h6 i x hx))⟩

set_option maxHeartbeats 1000000 in
theorem rcheck_fn (M : Mem) (v : Value) (d : Dsk) (h : RDisk M v d) :
    Fn0 Try.prog 34 [v] M (fun r M' => r = .int .i64 (if okD d then 0 else 440) ∧ M = M') := by
  have hD := h
  obtain ⟨A, c, B, k, rfl, h1, h2⟩ := h
  have l1 := h1.len_le
  have l2 := h2.len_le
  refine Fn.intro Try.func34 rfl rfl Try.ntmps34 rfl fun E F => ?_
  by_cases hpre : 1 ≤ d.sec.length ∧ d.sec.length ≤ 4096 ∧ d.pen.length ≤ 4096 ∧ -1 ≤ d.left ∧ d.left ≤ 65536
  · obtain ⟨p1, p2, p3, p4, p5⟩ := hpre
    repeat (first | ((with_reducible refine Tr.step rfl ?_); (first | ((with_reducible refine Knd.move ?_); (refine Exec.stab rfl (Stab.move rfl) rfl ?_)) | ((with_reducible refine Knd.assign ?_); (refine Exec.stab rfl (Stab.assign rfl) rfl ?_)) | ((with_reducible refine Knd.load ?_); ((refine Exec.stab rfl (Stab.load rfl (tysOk.get rfl) rfl (by repeat (first | exact Has.here | apply Has.there)) rfl) rfl ?_))) | ((with_reducible refine Knd.fieldAddr ?_); ((refine Exec.stab rfl (Stab.fieldZ rfl (tysOk.get rfl) rfl rfl (tysOk.get rfl) rfl) rfl ?_))) | ((with_reducible refine Knd.len ?_); ((refine Exec.stab rfl (Stab.len rfl (tysOk.get rfl) rfl) rfl ?_))) | ((with_reducible refine Knd.binOp ?_); ((refine Exec.stab rfl (Stab.int rfl rfl rfl) rfl ?_))) | ((with_reducible refine Knd.pick ?_); ((refine Exec.stab rfl (Stab.pick_fd rfl (by omega) rfl) rfl ?_))) | ((with_reducible refine Knd.box ?_); ((refine Exec.box rfl rfl (fun b => ?_)))))) | (with_reducible refine Tr.next ?_) | (with_reducible refine Tr.seq ?_) | (with_reducible refine Tr.region ?_) | (with_reducible refine Tr.nil ?_) | ((refine Tr.guard_y' rfl rfl rfl (by omega) ?_); (first | ((with_reducible refine Knd.move ?_); (refine Exec.stab rfl (Stab.move rfl) rfl ?_)) | ((with_reducible refine Knd.load ?_); ((refine Exec.stab rfl (Stab.load rfl (tysOk.get rfl) rfl (by repeat (first | exact Has.here | apply Has.there)) rfl) rfl ?_))) | ((with_reducible refine Knd.fieldAddr ?_); ((refine Exec.stab rfl (Stab.fieldZ rfl (tysOk.get rfl) rfl rfl (tysOk.get rfl) rfl) rfl ?_))) | ((with_reducible refine Knd.len ?_); ((refine Exec.stab rfl (Stab.len rfl (tysOk.get rfl) rfl) rfl ?_))) | ((with_reducible refine Knd.binOp ?_); ((refine Exec.stab rfl (Stab.int rfl rfl rfl) rfl ?_))))) | (with_reducible refine Tr.skip ?_) | (with_reducible refine Tr.block ?_) | (refine Tr.cond_f rfl (by omega) ?_))
    refine Tr.loop (α := Nat) (fun i => ⟨71, [(4, .int .i64 i), (3, .int .i64 d.sec.length), (2, .int .i64 0), (1, .pointer (some ⟨_, 0, none⟩))], [], M, _⟩) (fun i => i ≤ d.sec.length ∧ ∀ j s, j < i → d.sec[j]? = some s → s.length = 128) (fun i => d.sec.length - i) 0 ⟨Nat.zero_le _, fun j s h => by omega⟩ (holds_sub (by repeat (first | exact SubFr.nil | refine SubFr.cons rfl ?_)) (by repeat (first | exact DropL.refl | apply DropL.skip))) (fun i hi => ?_)
    obtain ⟨hi, hall⟩ := hi
    by_cases hlt : i < d.sec.length
    · obtain ⟨x, hx⟩ := get_of_lt hlt
      obtain ⟨hA, ch, hat, A1, k1, rfl, hb⟩ := h1.elem hx
      repeat' (first | ((with_reducible refine Tr.step rfl ?_); (first | ((with_reducible refine Knd.move ?_); (refine Exec.stab rfl (Stab.move rfl) rfl ?_)) | ((with_reducible refine Knd.assign ?_); (refine Exec.stab rfl (Stab.assign rfl) rfl ?_)) | ((with_reducible refine Knd.load ?_); (first | (refine Exec.stab rfl (Stab.load rfl (tysOk.get rfl) rfl (by repeat (first | exact Has.here | apply Has.there)) rfl) rfl ?_) | (refine Exec.stab rfl (Stab.loadM rfl (tysOk.get rfl) rfl (by assumption)) rfl ?_))) | ((with_reducible refine Knd.fieldAddr ?_); ((refine Exec.stab rfl (Stab.fieldZ rfl (tysOk.get rfl) rfl rfl (tysOk.get rfl) rfl) rfl ?_))) | ((with_reducible refine Knd.len ?_); ((refine Exec.stab rfl (Stab.len rfl (tysOk.get rfl) rfl) rfl ?_))) | ((with_reducible refine Knd.binOp ?_); (first | (refine Exec.stab rfl (Stab.addi rfl rfl (by omega)) rfl ?_) | (refine Exec.stab rfl (Stab.int rfl rfl rfl) rfl ?_))) | ((with_reducible refine Knd.indexAddr ?_); ((refine Exec.stab rfl (Stab.indexAddr rfl rfl (tysOk.get rfl) rfl (tysOk.get rfl) rfl (by omega) (by omega) (by first | rfl | assumption)) rfl ?_))))) | (with_reducible refine Tr.next ?_) | (with_reducible refine Tr.seq ?_) | (with_reducible refine Tr.region ?_) | (with_reducible refine Tr.nil ?_) | (with_reducible refine Tr.skip ?_) | (with_reducible refine Tr.block ?_) | (with_reducible refine Tr.ret ?_) | (with_reducible refine Tr.then_ret ?_) | (with_reducible refine Tr.in_ret ?_) | (with_reducible refine Tr.in_normal ?_) | (refine Tr.cond_t rfl (by first | (with_reducible assumption) | omega) ?_) | ((refine Tr.condd rfl (fun hg => ?_) (fun hg => ?_))))
      · (refine Tr.done (by first | exact .inl rfl | exact .inr rfl) rfl (by repeat (first | exact RVs.nil | (apply RVs.cons; (exact RV.tmp rfl)))) (by first | exact Mem.le.refl _ | assumption) (by exact ⟨[_], rfl⟩) ⟨rfl, ?_⟩)
        exact ⟨by rw [if_neg (fun hk => by have := hk.2.2.2.1 x (getElem_mem' hx); omega)]; rfl, rfl⟩
      · refine Tr.again (i + 1) ⟨by omega, fun j s hj hs => ?_⟩ (by omega) (holds_sub (by repeat (first | exact SubFr.nil | refine SubFr.cons rfl ?_)) (by repeat (first | exact DropL.refl | apply DropL.skip)))
        by_cases e : j = i
        · subst e; rw [hx] at hs; cases hs; omega
        · exact hall j s (by omega) hs
    · have hsec : ∀ s ∈ d.sec, s.length = 128 := fun s hs => by
        obtain ⟨j, hj⟩ := List.getElem?_of_mem hs
        exact hall j s (by have := (List.getElem?_eq_some_iff.1 hj).1; omega) hj
      clear hall
      repeat' (first | ((with_reducible refine Tr.step rfl ?_); (first | ((with_reducible refine Knd.move ?_); (refine Exec.stab rfl (Stab.move rfl) rfl ?_)) | ((with_reducible refine Knd.assign ?_); (refine Exec.stab rfl (Stab.assign rfl) rfl ?_)) | ((with_reducible refine Knd.binOp ?_); ((refine Exec.stab rfl (Stab.int rfl rfl rfl) rfl ?_))))) | (with_reducible refine Tr.next ?_) | (with_reducible refine Tr.seq ?_) | (with_reducible refine Tr.region ?_) | (with_reducible refine Tr.nil ?_) | (with_reducible refine Tr.block ?_) | (with_reducible refine Tr.exit ?_) | (with_reducible refine Tr.then_exit ?_) | ((with_reducible refine Tr.in_exit ?_ ?_); (exact rfl)) | (refine Tr.cond_f rfl (by first | (with_reducible assumption) | omega) ?_))
      refine Tr.loop (α := Nat) (fun i => ⟨71, [(5, .int .i64 i), (3, .int .i64 d.sec.length), (2, .int .i64 0), (1, .pointer (some ⟨_, 0, none⟩))], [], M, _⟩) (fun i => i ≤ d.pen.length ∧ ∀ j w, j < i → d.pen[j]? = some w → 0 ≤ w.1 ∧ w.1 < d.sec.length ∧ w.2.length = 128) (fun i => d.pen.length - i) 0 ⟨Nat.zero_le _, fun j s h => by omega⟩ (holds_sub (by repeat (first | exact SubFr.nil | refine SubFr.cons rfl ?_)) (by repeat (first | exact DropL.refl | apply DropL.skip))) (fun i hi => ?_)
      obtain ⟨hi, hall⟩ := hi
      by_cases hlt : i < d.pen.length
      · obtain ⟨x, hx⟩ := get_of_lt hlt
        obtain ⟨hA, ch, hat, A1, k1, rfl, hb⟩ := h2.elem hx
        by_cases hgood : 0 ≤ x.1 ∧ x.1 < d.sec.length ∧ x.2.length = 128
        · obtain ⟨g1, g2, g3⟩ := hgood
          repeat (first | ((with_reducible refine Tr.step rfl ?_); (first | ((with_reducible refine Knd.move ?_); (refine Exec.stab rfl (Stab.move rfl) rfl ?_)) | ((with_reducible refine Knd.assign ?_); (refine Exec.stab rfl (Stab.assign rfl) rfl ?_)) | ((with_reducible refine Knd.load ?_); (first | (refine Exec.stab rfl (Stab.load rfl (tysOk.get rfl) rfl (by repeat (first | exact Has.here | apply Has.there)) rfl) rfl ?_) | (refine Exec.stab rfl (Stab.loadMA rfl (tysOk.get rfl) rfl (by assumption) (by first | rfl | assumption)) rfl ?_))) | ((with_reducible refine Knd.fieldAddr ?_); ((refine Exec.stab rfl (Stab.fieldZ rfl (tysOk.get rfl) rfl rfl (tysOk.get rfl) rfl) rfl ?_))) | ((with_reducible refine Knd.len ?_); ((refine Exec.stab rfl (Stab.len rfl (tysOk.get rfl) rfl) rfl ?_))) | ((with_reducible refine Knd.binOp ?_); (first | (refine Exec.stab rfl (Stab.addi rfl rfl (by omega)) rfl ?_) | (refine Exec.stab rfl (Stab.int rfl rfl rfl) rfl ?_))) | ((with_reducible refine Knd.pick ?_); ((refine Exec.stab rfl (Stab.pick_fd rfl (by omega) rfl) rfl ?_))) | ((with_reducible refine Knd.store ?_); ((refine Exec.storeW rfl rfl (tysOk.get rfl) (by repeat (first | exact Upd.here | apply Upd.there)) rfl rfl (by repeat (first | exact AllOne.nil | refine AllOne.cons (by first | rfl | assumption) ?_)) ?_))) | ((with_reducible refine Knd.alloc ?_); ((refine Exec.alloc (tysOk.get rfl) rfl rfl (fun b => ?_)))) | ((with_reducible refine Knd.indexAddr ?_); ((refine Exec.stab rfl (Stab.indexAddr rfl rfl (tysOk.get rfl) rfl (tysOk.get rfl) rfl (by omega) (by omega) (by first | rfl | assumption)) rfl ?_))))) | (with_reducible refine Tr.next ?_) | (with_reducible refine Tr.seq ?_) | (with_reducible refine Tr.region ?_) | (with_reducible refine Tr.nil ?_) | ((refine Tr.guard_y' rfl rfl rfl (by first | (with_reducible assumption) | omega) ?_); (first | ((with_reducible refine Knd.move ?_); (refine Exec.stab rfl (Stab.move rfl) rfl ?_)) | ((with_reducible refine Knd.load ?_); ((refine Exec.stab rfl (Stab.load rfl (tysOk.get rfl) rfl (by repeat (first | exact Has.here | apply Has.there)) rfl) rfl ?_))) | ((with_reducible refine Knd.fieldAddr ?_); ((refine Exec.stab rfl (Stab.fieldZ rfl (tysOk.get rfl) rfl rfl (tysOk.get rfl) rfl) rfl ?_))) | ((with_reducible refine Knd.len ?_); ((refine Exec.stab rfl (Stab.len rfl (tysOk.get rfl) rfl) rfl ?_))) | ((with_reducible refine Knd.binOp ?_); ((refine Exec.stab rfl (Stab.int rfl rfl rfl) rfl ?_))))) | (with_reducible refine Tr.skip ?_) | (with_reducible refine Tr.block ?_) | (with_reducible refine Tr.in_normal ?_) | (refine Tr.cond_t rfl (by first | (with_reducible assumption) | omega) ?_) | (refine Tr.cond_f rfl (by first | (with_reducible assumption) | omega) ?_))
          refine Tr.again (i + 1) ⟨by omega, fun j s hj hs => ?_⟩ (by omega) (holds_sub (by repeat (first | exact SubFr.nil | refine SubFr.cons rfl ?_)) (by repeat (first | exact DropL.refl | apply DropL.skip)))
          by_cases e : j = i
          · subst e; rw [hx] at hs; cases hs; omega
          · exact hall j s (by omega) hs
        · have hno : ¬ okD d := fun hk => hgood (hk.2.2.2.2.1 x (getElem_mem' hx))
          clear hall
          repeat' (first | ((with_reducible refine Tr.step rfl ?_); (first | ((with_reducible refine Knd.move ?_); (refine Exec.stab rfl (Stab.move rfl) rfl ?_)) | ((with_reducible refine Knd.assign ?_); (refine Exec.stab rfl (Stab.assign rfl) rfl ?_)) | ((with_reducible refine Knd.load ?_); (first | (refine Exec.stab rfl (Stab.load rfl (tysOk.get rfl) rfl (by repeat (first | exact Has.here | apply Has.there)) rfl) rfl ?_) | (refine Exec.stab rfl (Stab.loadMA rfl (tysOk.get rfl) rfl (by assumption) (by first | rfl | assumption)) rfl ?_))) | ((with_reducible refine Knd.fieldAddr ?_); ((refine Exec.stab rfl (Stab.fieldZ rfl (tysOk.get rfl) rfl rfl (tysOk.get rfl) rfl) rfl ?_))) | ((with_reducible refine Knd.len ?_); ((refine Exec.stab rfl (Stab.len rfl (tysOk.get rfl) rfl) rfl ?_))) | ((with_reducible refine Knd.binOp ?_); ((refine Exec.stab rfl (Stab.int rfl rfl rfl) rfl ?_))) | ((with_reducible refine Knd.pick ?_); (first | (refine Exec.stab rfl (Stab.pick_t rfl (by (with_reducible rfl)) rfl) rfl ?_) | (refine Exec.stab rfl (Stab.pick_td rfl (by (with_reducible assumption)) rfl) rfl ?_) | (refine Exec.stab rfl (Stab.pick_fd rfl (by (with_reducible assumption)) rfl) rfl ?_))) | ((with_reducible refine Knd.store ?_); ((refine Exec.storeW rfl rfl (tysOk.get rfl) (by repeat (first | exact Upd.here | apply Upd.there)) rfl rfl (by repeat (first | exact AllOne.nil | refine AllOne.cons (by first | rfl | assumption) ?_)) ?_))) | ((with_reducible refine Knd.alloc ?_); ((refine Exec.alloc (tysOk.get rfl) rfl rfl (fun b => ?_)))) | ((with_reducible refine Knd.indexAddr ?_); ((refine Exec.stab rfl (Stab.indexAddr rfl rfl (tysOk.get rfl) rfl (tysOk.get rfl) rfl (by omega) (by omega) (by first | rfl | assumption)) rfl ?_))))) | (with_reducible refine Tr.next ?_) | (with_reducible refine Tr.seq ?_) | (with_reducible refine Tr.region ?_) | (with_reducible refine Tr.nil ?_) | (refine Tr.guard_s0 rfl rfl rfl (by (with_reducible rfl)) rfl rfl ?_) | ((refine Tr.guard_y' rfl rfl rfl (by (with_reducible assumption)) ?_); (first | ((with_reducible refine Knd.move ?_); (refine Exec.stab rfl (Stab.move rfl) rfl ?_)) | ((with_reducible refine Knd.load ?_); ((refine Exec.stab rfl (Stab.load rfl (tysOk.get rfl) rfl (by repeat (first | exact Has.here | apply Has.there)) rfl) rfl ?_))) | ((with_reducible refine Knd.len ?_); ((refine Exec.stab rfl (Stab.len rfl (tysOk.get rfl) rfl) rfl ?_))) | ((with_reducible refine Knd.binOp ?_); ((refine Exec.stab rfl (Stab.int rfl rfl rfl) rfl ?_))))) | (refine Tr.guard_n' rfl rfl rfl (by (with_reducible assumption)) rfl rfl ?_) | (with_reducible refine Tr.skip ?_) | (with_reducible refine Tr.block ?_) | (with_reducible refine Tr.ret ?_) | (with_reducible refine Tr.then_ret ?_) | (with_reducible refine Tr.in_ret ?_) | (refine Tr.cond_bt rfl (by (with_reducible rfl)) ?_) | (refine Tr.cond_t rfl (by first | (with_reducible assumption) | omega) ?_) | (((with_reducible refine Knd.fieldAddr ?_); ((refine Exec.stab rfl (Stab.fieldZ rfl (tysOk.get rfl) rfl rfl (tysOk.get rfl) rfl) rfl ?_)))) | ((refine Tr.guardd' rfl rfl rfl rfl rfl (fun hg => ?_) (fun hg => ?_))))
          all_goals
            first
              | (exfalso; omega)
              | ((refine Tr.done (by first | exact .inl rfl | exact .inr rfl) rfl (by repeat (first | exact RVs.nil | (apply RVs.cons; (exact RV.tmp rfl)))) (by first | exact Mem.le.refl _ | assumption) (by exact ⟨[_, _], rfl⟩) ⟨rfl, ?_⟩)
                 exact ⟨by rw [if_neg hno]; rfl, rfl⟩)
      · have hpen : ∀ w ∈ d.pen, 0 ≤ w.1 ∧ w.1 < d.sec.length ∧ w.2.length = 128 := fun s hs => by
          obtain ⟨j, hj⟩ := List.getElem?_of_mem hs
          exact hall j s (by have := (List.getElem?_eq_some_iff.1 hj).1; omega) hj
        clear hall
        repeat (first | ((with_reducible refine Tr.step rfl ?_); (first | ((with_reducible refine Knd.move ?_); (refine Exec.stab rfl (Stab.move rfl) rfl ?_)) | ((with_reducible refine Knd.assign ?_); (refine Exec.stab rfl (Stab.assign rfl) rfl ?_)) | ((with_reducible refine Knd.load ?_); ((refine Exec.stab rfl (Stab.load rfl (tysOk.get rfl) rfl (by repeat (first | exact Has.here | apply Has.there)) rfl) rfl ?_))) | ((with_reducible refine Knd.fieldAddr ?_); ((refine Exec.stab rfl (Stab.fieldZ rfl (tysOk.get rfl) rfl rfl (tysOk.get rfl) rfl) rfl ?_))) | ((with_reducible refine Knd.len ?_); ((refine Exec.stab rfl (Stab.len rfl (tysOk.get rfl) rfl) rfl ?_))) | ((with_reducible refine Knd.binOp ?_); ((refine Exec.stab rfl (Stab.int rfl rfl rfl) rfl ?_))))) | (with_reducible refine Tr.next ?_) | (with_reducible refine Tr.seq ?_) | (with_reducible refine Tr.region ?_) | (with_reducible refine Tr.nil ?_) | (with_reducible refine Tr.exit ?_) | (with_reducible refine Tr.ret ?_) | (with_reducible refine Tr.then_exit ?_) | ((with_reducible refine Tr.in_exit ?_ ?_); (exact rfl)) | (refine Tr.cond_f rfl (by first | (with_reducible assumption) | omega) ?_))
        (refine Tr.done (by first | exact .inl rfl | exact .inr rfl) rfl (by repeat (first | exact RVs.nil | (apply RVs.cons; (exact RV.tmp rfl)))) (by first | exact Mem.le.refl _ | assumption) (by exact ⟨[_], rfl⟩) ⟨rfl, ?_⟩)
        exact ⟨by rw [if_pos ⟨by omega, by omega, by omega, hsec, hpen, by omega, by omega⟩]; rfl, rfl⟩
  · have hno : ¬ okD d := fun hk => hpre ⟨hk.1, hk.2.1, hk.2.2.1, hk.2.2.2.2.2⟩
    repeat' (first | ((with_reducible refine Tr.step rfl ?_); (first | ((with_reducible refine Knd.move ?_); (refine Exec.stab rfl (Stab.move rfl) rfl ?_)) | ((with_reducible refine Knd.assign ?_); (refine Exec.stab rfl (Stab.assign rfl) rfl ?_)) | ((with_reducible refine Knd.load ?_); ((refine Exec.stab rfl (Stab.load rfl (tysOk.get rfl) rfl (by repeat (first | exact Has.here | apply Has.there)) rfl) rfl ?_))) | ((with_reducible refine Knd.fieldAddr ?_); ((refine Exec.stab rfl (Stab.fieldZ rfl (tysOk.get rfl) rfl rfl (tysOk.get rfl) rfl) rfl ?_))) | ((with_reducible refine Knd.len ?_); ((refine Exec.stab rfl (Stab.len rfl (tysOk.get rfl) rfl) rfl ?_))) | ((with_reducible refine Knd.binOp ?_); ((refine Exec.stab rfl (Stab.int rfl rfl rfl) rfl ?_))) | ((with_reducible refine Knd.pick ?_); (first | (refine Exec.stab rfl (Stab.pick_t rfl (by (with_reducible rfl)) rfl) rfl ?_) | (refine Exec.stab rfl (Stab.pick_td rfl (by (with_reducible assumption)) rfl) rfl ?_) | (refine Exec.stab rfl (Stab.pick_fd rfl (by (with_reducible assumption)) rfl) rfl ?_))) | ((with_reducible refine Knd.box ?_); ((refine Exec.box rfl rfl (fun b => ?_)))))) | (with_reducible refine Tr.next ?_) | (with_reducible refine Tr.seq ?_) | (with_reducible refine Tr.region ?_) | (with_reducible refine Tr.nil ?_) | (refine Tr.guard_s0 rfl rfl rfl (by (with_reducible rfl)) rfl rfl ?_) | ((refine Tr.guard_y' rfl rfl rfl (by (with_reducible assumption)) ?_); (first | ((with_reducible refine Knd.load ?_); ((refine Exec.stab rfl (Stab.load rfl (tysOk.get rfl) rfl (by repeat (first | exact Has.here | apply Has.there)) rfl) rfl ?_))) | ((with_reducible refine Knd.len ?_); ((refine Exec.stab rfl (Stab.len rfl (tysOk.get rfl) rfl) rfl ?_))) | ((with_reducible refine Knd.binOp ?_); ((refine Exec.stab rfl (Stab.int rfl rfl rfl) rfl ?_))))) | (refine Tr.guard_n' rfl rfl rfl (by (with_reducible assumption)) rfl rfl ?_) | (with_reducible refine Tr.ret ?_) | (with_reducible refine Tr.then_ret ?_) | (refine Tr.cond_bt rfl (by (with_reducible rfl)) ?_) | (refine Tr.cond_t rfl (by first | (with_reducible assumption) | omega) ?_) | (first | ((with_reducible refine Knd.move ?_); (refine Exec.stab rfl (Stab.move rfl) rfl ?_)) | ((with_reducible refine Knd.fieldAddr ?_); ((refine Exec.stab rfl (Stab.fieldZ rfl (tysOk.get rfl) rfl rfl (tysOk.get rfl) rfl) rfl ?_)))) | ((refine Tr.guardd' rfl rfl rfl rfl rfl (fun hg => ?_) (fun hg => ?_))))
    all_goals
      first
        | (exfalso; omega)
        | ((refine Tr.done (by first | exact .inl rfl | exact .inr rfl) rfl (by repeat (first | exact RVs.nil | (apply RVs.cons; (exact RV.tmp rfl)))) (by first | exact Mem.le.refl _ | assumption) (by exact ⟨[_], rfl⟩) ⟨rfl, ?_⟩)
           exact ⟨by rw [if_neg hno]; rfl, rfl⟩)
end Go.Proofs.Ytkbggengagockaa
/-
  The disk: the contract of Sync.
  Conditions: none.
-/
namespace Go.Proofs.Ytkbggengagockaa
open Go Bf
attribute [local irreducible] Tr Exec Stab HasTy Go.Addr.add IntKind.wrap
/-- the first writes, performed -/
def perf (s : List (List UInt8)) (p : List (Int × List UInt8)) : List (List UInt8) := p.foldl (fun s w => s.set w.1.toNat w.2) s
def syncF (d : Dsk) : Dsk × Int :=
  if runs d then
    (if 0 ≤ d.left ∧ d.left < d.pen.length then
      (let s := perf d.sec (d.pen.take d.left.toNat)
       let w := d.pen.getD d.left.toNat (0, [])
       (⟨s.set w.1.toNat (w.2.take 64 ++ (s.getD w.1.toNat []).drop 64), [], 0, true⟩, 440))
     else (⟨perf d.sec d.pen, [], if 0 ≤ d.left then d.left - d.pen.length else -1, false⟩, 0))
  else (zD, 440)
theorem perf_take {s : List (List UInt8)} {p : List (Int × List UInt8)} {i : Nat} {x : Int × List UInt8} (h : p[i]? = some x) : perf s (p.take (i + 1)) = (perf s (p.take i)).set x.1.toNat x.2 := by
  have e : p.take (i + 1) = p.take i ++ [x] := by
    rw [List.take_add_one, h]; rfl
  rw [e, perf, List.foldl_append]; rfl
theorem perf_length (s : List (List UInt8)) (p : List (Int × List UInt8)) : (perf s p).length = s.length := by
  induction p generalizing s with
  | nil => rfl
  | cons w p ih => show (perf (s.set w.1.toNat w.2) p).length = _; rw [ih]; simp
theorem perf_all {s : List (List UInt8)} {p : List (Int × List UInt8)} (h1 : ∀ x ∈ s, x.length = 128) (h2 : ∀ w ∈ p, w.2.length = 128) : ∀ x ∈ perf s p, x.length = 128 := by
  induction p generalizing s with
  | nil => exact h1
  | cons w p ih =>
    refine ih (s := s.set w.1.toNat w.2) (fun x hx => ?_) (fun w hw => h2 w (List.mem_cons_of_mem _ hw))
    rcases List.mem_or_eq_of_mem_set hx with h | rfl
    · exact h1 x h
    · exact h2 w (List.mem_cons_self ..)

set_option maxHeartbeats 1000000 in
theorem sector_own (M : Mem) (A : Option Addr) (c : Nat) (bs : List UInt8) (h : BSl M (.slice A bs.length c) bs) (hl : bs.length ≤ 128) :
    Bf.Fn Try.prog 53 [.slice A bs.length c] M [] (fun r M' A' => M = M' ∧ ∃ b, r = .slice (some ⟨b, 0, none⟩) 128 128 ∧ A' = [box b 5 (byteV (pad bs))]) := by
  obtain ⟨A', c', e, h2, h3, h4, h5⟩ := h
  cases e
  refine Fn.intro Try.func53 rfl rfl Try.ntmps53 rfl fun E F => ?_
  repeat (first | ((with_reducible refine Tr.step rfl ?_); (first | ((with_reducible refine Knd.move ?_); (refine Exec.stab rfl (Stab.move rfl) rfl ?_)) | ((with_reducible refine Knd.assign ?_); (refine Exec.stab rfl (Stab.assign rfl) rfl ?_)) | ((with_reducible refine Knd.makeSlice ?_); (refine Exec.make rfl rfl (tysOk.get rfl) rfl (tysOk.get rfl) rfl rfl rfl (by omega) (by omega) (by first | omega | (simp; done) | (simp; omega)) (by omega) rfl (fun b => ?_))))) | (with_reducible refine Tr.next ?_) | (with_reducible refine Tr.seq ?_) | (with_reducible refine Tr.region ?_) | (with_reducible refine Tr.nil ?_))
  ((refine Tr.step rfl ?_))
  refine Exec.copy (news := byteV bs) rfl rfl (tysOk.get rfl) rfl (tysOk.get rfl) rfl (Src.row_min h5) (by simp; omega) (byteV_one bs) (by simp; omega) Upd.here rfl ?_
  repeat (first | ((with_reducible refine Tr.step rfl ?_); (first | ((with_reducible refine Knd.move ?_); (refine Exec.stab rfl (Stab.move rfl) rfl ?_)) | ((with_reducible refine Knd.assign ?_); (refine Exec.stab rfl (Stab.assign rfl) rfl ?_)))) | (with_reducible refine Tr.next ?_) | (with_reducible refine Tr.seq ?_) | (with_reducible refine Tr.region ?_) | (with_reducible refine Tr.nil ?_) | (with_reducible refine Tr.ret ?_))
  have e : List.take 0 (List.replicate (Int.toNat 128) (Value.int .u8 0)) ++ byteV bs ++ List.drop (0 + (byteV bs).length) (List.replicate (Int.toNat 128) (Value.int .u8 0)) = byteV (pad bs) := by
    rw [pad, byteV_append, ← byteV_replicate, List.drop_replicate]; simp only [List.take_zero, List.nil_append, byteV_length, Nat.zero_add]; rfl
  rw [e]
  refine Tr.doneA (A' := [box _ 5 (byteV (pad bs))]) (by first | exact .inl rfl | exact .inr rfl) rfl (by repeat (first | exact RVs.nil | (apply RVs.cons; (exact RV.tmp rfl)))) (Mem.le.refl _) ⟨fun _ h => h, fun h => h⟩ ⟨rfl, _, rfl, rfl⟩
theorem BSl.cap {M : Mem} {A : Option Addr} {n c : Nat} {bs : List UInt8} (h : BSl M (.slice A n c) bs) : bs.length ≤ c ∧ Row M A bs.length 1 (byteV bs) := by
  obtain ⟨_, _, e, h1, h2, h3, h4⟩ := h
  cases e
  exact ⟨h1, h4⟩
theorem sector_full (M : Mem) (A : Option Addr) (c : Nat) (bs : List UInt8) (h : BSl M (.slice A bs.length c) bs) (hl : bs.length = 128) :
    Fn0 Try.prog 53 [.slice A bs.length c] M (fun r M' => ∃ A' k', r = .slice A' bs.length k' ∧ BSl M' (.slice A' bs.length k') bs) := by
  have := sector_fn M A c bs h (by omega)
  rwa [pad_full hl] at this
theorem sec_cell {M : Mem} {cs : List Value} {n j : Nat} {s : List (List UInt8)} {z : List UInt8} (hE : Elems 1 RSec M (cs.take n) s) (hz : s[j]? = some z) : ∃ A k, cs[j]? = some (.slice A z.length k) ∧ BSl M (.slice A z.length k) z := by
  obtain ⟨A, k, h1, h2⟩ := hE.2 j z hz
  refine ⟨A, k, ?_, h2⟩
  rw [Nat.mul_one, List.take_one, List.head?_drop] at h1
  have h3 : (cs.take n)[j]? = some (.slice A z.length k) := by
    cases h : (cs.take n)[j]? with
    | none => rw [h] at h1; cases h1
    | some u => rw [h] at h1; simp at h1; rw [h1]
  rw [List.getElem?_take] at h3
  split at h3
  · exact h3
  · cases h3

set_option maxHeartbeats 1000000 in
theorem clone_own (M : Mem) (A : Option Addr) (c n : Nat) (cells : List Value) (h5 : Row M A n 1 cells) (h2 : n ≤ c) (h3 : c ≤ 9223372036854775807) (h4 : A = none → n = 0) (hn : 1 ≤ n) (hl : n ≤ 4096) :
    Bf.Fn Try.prog 54 [.slice A n c] M [] (fun r M' A' => M = M' ∧ ∃ A2 c', r = .slice A2 n c' ∧ c' ≤ 9223372036854775807 ∧ A' = [ownS 35 1 A2 n c' cells]) := by
  refine Fn.intro Try.func54 rfl rfl Try.ntmps54 rfl fun E F => ?_
  have hA : A ≠ none := fun h => by have := h4 h; omega
  repeat (first | ((with_reducible refine Tr.step rfl ?_); (first | ((with_reducible refine Knd.move ?_); (refine Exec.stab rfl (Stab.move rfl) rfl ?_)) | ((with_reducible refine Knd.assign ?_); (refine Exec.stab rfl (Stab.assign rfl) rfl ?_)) | ((with_reducible refine Knd.binOp ?_); ((refine Exec.stab rfl (Stab.slnil rfl (tysOk.get rfl) rfl) rfl ?_))) | ((with_reducible refine Knd.buildSlice ?_); ((refine Exec.buildSlice (tysOk.get rfl) rfl (tysOk.get rfl) rfl rfl rfl rfl rfl (by repeat (exact BuildP.nil)) rfl (fun b => ?_)))))) | (with_reducible refine Tr.next ?_) | (with_reducible refine Tr.seq ?_) | (with_reducible refine Tr.region ?_) | (with_reducible refine Tr.nil ?_) | (with_reducible refine Tr.skip ?_) | (refine Tr.cond_f rfl (by (with_reducible assumption)) ?_))
  refine Tr.box_own 1 0 (by repeat (first | exact Upd.here | apply Upd.there)) rfl (by intro u hu; cases hu) (by simp [maxLen]) ?_
  ((refine Tr.step rfl ?_))
  refine Exec.append (news := cells) rfl rfl (tysOk.get rfl) rfl (tysOk.get rfl) rfl rfl rfl rfl (by repeat (first | exact Del.here | apply Del.there)) (Src.row h5) h5.len h5.one (by omega) (by omega) rfl (fun A' c' hc' => ?_)
  simp only [Nat.zero_add, List.nil_append]
  repeat (first | ((with_reducible refine Tr.step rfl ?_); (((with_reducible refine Knd.assign ?_); (refine Exec.stab rfl (Stab.assign rfl) rfl ?_)))) | (with_reducible refine Tr.next ?_) | (with_reducible refine Tr.nil ?_) | (with_reducible refine Tr.ret ?_))
  refine Tr.doneA (A' := [ownS 35 1 A' n c' cells]) (by first | exact .inl rfl | exact .inr rfl) rfl (by repeat (first | exact RVs.nil | (apply RVs.cons; (exact RV.tmp rfl)))) (Mem.le.refl _) ⟨fun _ h => h, fun h => h⟩ ⟨rfl, A', c', rfl, hc', rfl⟩

theorem perf_step {M M' : Mem} {n c i : Nat} {cur : List Value} {s : List (List UInt8)} {A : Option Addr} {k : Nat} {x : List UInt8} (hn : n = s.length) (hl : cur.length = c) (h1 : ∀ u ∈ cur.take n, u.oneCell' = true) (hE : Elems 1 RSec M (cur.take n) s) (hm : Mem.le M M')
    (hb : BSl M' (.slice A x.length k) x) : (cur.set i (.slice A x.length k)).length = c ∧ (∀ u ∈ (cur.set i (.slice A x.length k)).take n, u.oneCell' = true) ∧ Elems 1 RSec M' ((cur.set i (.slice A x.length k)).take n) (s.set i x) := by
  have e : (cur.set i (.slice A x.length k)).take n = (cur.take n).set i (.slice A x.length k) := List.take_set ..
  rw [e]
  refine ⟨by simpa using hl, fun u hu => ?_, (hE.mono RSec.mono hm).set ⟨A, k, rfl, hb⟩⟩
  rcases List.mem_or_eq_of_mem_set hu with h | rfl
  · exact h1 u h
  · rfl

set_option maxHeartbeats 2000000 in
theorem sync_fn (M : Mem) (v : Value) (d : Dsk) (h : RDisk M v d) :
    Fn0 Try.prog 27 [v] M (fun r M' => RPair M' r (syncF d)) := by
  have hD := h
  obtain ⟨sec, pen, left, stop⟩ := d
  obtain ⟨A, c, B, k, rfl, h1, h2⟩ := h
  dsimp only at hD h1 h2 ⊢
  have l1 := h1.len_le
  have l2 := h2.len_le
  refine Fn.intro Try.func27 rfl rfl Try.ntmps27 rfl fun E F => ?_
  repeat (first | ((with_reducible refine Tr.step rfl ?_); (first | ((with_reducible refine Knd.assign ?_); (refine Exec.stab rfl (Stab.assign rfl) rfl ?_)) | ((with_reducible refine Knd.load ?_); ((refine Exec.stab rfl (Stab.loadW rfl (tysOk.get rfl) rfl (by repeat (first | exact Has.here | apply Has.there)) rfl) rfl ?_))) | ((with_reducible refine Knd.box ?_); ((refine Exec.box rfl rfl (fun b => ?_)))) | ((with_reducible refine Knd.alloc ?_); ((refine Exec.alloc (tysOk.get rfl) rfl rfl (fun b => ?_)))))) | (with_reducible refine Tr.next ?_) | (with_reducible refine Tr.seq ?_) | (with_reducible refine Tr.region ?_) | (with_reducible refine Tr.nil ?_))
  by_cases hk : runs ⟨sec, pen, left, stop⟩
  · ((refine Tr.step rfl ?_)); refine Exec.call0 rfl (running_y M _ _ hD hk) rfl ?_
    rintro _ _ _ ⟨rfl, rfl⟩
    obtain ⟨⟨q1, q2, q3, q0, q4, q5, q6⟩, q7⟩ := id hk
    dsimp only at q1 q2 q3 q0 q4 q5 q6 q7
    obtain ⟨cells, -, g1, g2, g3, g5, g6⟩ := h1.cells
    obtain ⟨_, -, gk, gk2, -⟩ := h2.cells
    by_cases hl : 0 ≤ left ∧ left < pen.length
    · obtain ⟨m, rfl⟩ : ∃ m : Nat, left = (m : Int) := ⟨left.toNat, by omega⟩
      obtain ⟨hl1, hl2⟩ := hl
      repeat (first | ((with_reducible refine Tr.step rfl ?_); (first | ((with_reducible refine Knd.move ?_); (refine Exec.stab rfl (Stab.move rfl) rfl ?_)) | ((with_reducible refine Knd.assign ?_); (refine Exec.stab rfl (Stab.assign rfl) rfl ?_)) | ((with_reducible refine Knd.load ?_); (first | (refine Exec.stab rfl (Stab.load rfl (tysOk.get rfl) rfl (by repeat (first | exact Has.here | apply Has.there)) rfl) rfl ?_) | (refine Exec.stab rfl (Stab.loadW rfl (tysOk.get rfl) rfl (by repeat (first | exact Has.here | apply Has.there)) rfl) rfl ?_))) | ((with_reducible refine Knd.fieldAddr ?_); ((refine Exec.stab rfl (Stab.fieldZ rfl (tysOk.get rfl) rfl rfl (tysOk.get rfl) rfl) rfl ?_))) | ((with_reducible refine Knd.len ?_); ((refine Exec.stab rfl (Stab.len rfl (tysOk.get rfl) rfl) rfl ?_))) | ((with_reducible refine Knd.binOp ?_); ((refine Exec.stab rfl (Stab.int rfl rfl rfl) rfl ?_))) | ((with_reducible refine Knd.pick ?_); ((refine Exec.stab rfl (Stab.pick_td rfl (by omega) rfl) rfl ?_))) | ((with_reducible refine Knd.store ?_); (first | (refine Exec.store rfl rfl (tysOk.get rfl) rfl (by first | rfl | assumption) (by repeat (first | exact Upd.here | apply Upd.there)) (by repeat (first | exact SetL.z | apply SetL.s)) ?_) | (refine Exec.storeW rfl rfl (tysOk.get rfl) (by repeat (first | exact Upd.here | apply Upd.there)) rfl rfl (by repeat (first | exact AllOne.nil | refine AllOne.cons (by first | rfl | assumption) ?_)) ?_))))) | (with_reducible refine Tr.next ?_) | (with_reducible refine Tr.seq ?_) | (with_reducible refine Tr.region ?_) | (with_reducible refine Tr.nil ?_) | ((refine Tr.guard_y rfl rfl rfl (by first | (with_reducible assumption) | omega) ?_); (first | ((with_reducible refine Knd.move ?_); (refine Exec.stab rfl (Stab.move rfl) rfl ?_)) | ((with_reducible refine Knd.load ?_); ((refine Exec.stab rfl (Stab.load rfl (tysOk.get rfl) rfl (by repeat (first | exact Has.here | apply Has.there)) rfl) rfl ?_))) | ((with_reducible refine Knd.fieldAddr ?_); ((refine Exec.stab rfl (Stab.fieldZ rfl (tysOk.get rfl) rfl rfl (tysOk.get rfl) rfl) rfl ?_))) | ((with_reducible refine Knd.binOp ?_); ((refine Exec.stab rfl (Stab.int rfl rfl rfl) rfl ?_))))) | (with_reducible refine Tr.skip ?_) | (refine Tr.cond_t rfl (by (with_reducible assumption)) ?_) | (refine Tr.cond_f rfl (by (with_reducible exact (not_not_intro rfl))) ?_))
      ((refine Tr.step rfl ?_))
      refine Exec.call (A := []) rfl (clone_own M A c sec.length cells g5 g1 g2 g3 q1 q2) (List.Perm.refl _) rfl ?_
      rintro _ _ _ - ⟨rfl, A2, c', rfl, hc', rfl⟩
      refine Tr.own_open Del.here (by omega) (fun g cur hA2 hnc hcl hct => ?_)
      subst hA2
      rw [Nat.mul_one] at hcl hct
      repeat (first | ((with_reducible refine Tr.step rfl ?_); (first | ((with_reducible refine Knd.move ?_); (refine Exec.stab rfl (Stab.move rfl) rfl ?_)) | ((with_reducible refine Knd.load ?_); ((refine Exec.stab rfl (Stab.load rfl (tysOk.get rfl) rfl (by repeat (first | exact Has.here | apply Has.there)) rfl) rfl ?_))) | ((with_reducible refine Knd.fieldAddr ?_); ((refine Exec.stab rfl (Stab.fieldZ rfl (tysOk.get rfl) rfl rfl (tysOk.get rfl) rfl) rfl ?_))) | ((with_reducible refine Knd.len ?_); ((refine Exec.stab rfl (Stab.len rfl (tysOk.get rfl) rfl) rfl ?_))) | ((with_reducible refine Knd.store ?_); ((refine Exec.store rfl rfl (tysOk.get rfl) rfl (by first | rfl | assumption) (by repeat (first | exact Upd.here | apply Upd.there)) (by repeat (first | exact SetL.z | apply SetL.s)) ?_))) | ((with_reducible refine Knd.slice ?_); ((refine Exec.stab rfl (Stab.slice_hm rfl rfl rfl (tysOk.get rfl) rfl (tysOk.get rfl) (by omega) (by omega) (by omega)) rfl ?_))))) | (with_reducible refine Tr.next ?_) | (with_reducible refine Tr.seq ?_) | (with_reducible refine Tr.region ?_) | (with_reducible refine Tr.nil ?_) | (with_reducible refine Tr.block ?_))
      refine Tr.loop (α := Nat × Mem × List Value) (fun x => ⟨94, [(44, .int .i64 x.1), (43, .int .i64 m), (42, .slice B m m), (6, .int .i64 m), (5, .int .i64 pen.length), (3, .int .i64 0), (2, .pointer (some ⟨_, 0, none⟩)), (1, .pointer (some ⟨_, 0, none⟩))], [], x.2.1, box g 35 x.2.2 :: _⟩)
        (fun x => x.1 ≤ m ∧ Mem.le M x.2.1 ∧ x.2.2.length = c' ∧ (∀ u ∈ x.2.2.take sec.length, u.oneCell' = true) ∧ Elems 1 RSec x.2.1 (x.2.2.take sec.length) (perf sec (pen.take x.1)))
        (fun x => m - x.1) (0, M, cur) ⟨Nat.zero_le _, Mem.le.refl _, hcl, by rw [hct]; exact g5.one, by rw [hct]; exact g6⟩ (holds_sub (by repeat (first | exact SubFr.nil | refine SubFr.cons rfl ?_)) (by repeat (first | exact DropL.refl | apply DropL.skip))) (fun x hi => ?_)
      obtain ⟨i, M1, cs⟩ := x
      obtain ⟨hi, hm1, hcs, hone, hel⟩ := hi
      simp only at hi hm1 hcs hone hel
      dsimp only
      by_cases hlt : i < m
      · obtain ⟨y, hy⟩ := get_of_lt (show i < pen.length by omega)
        obtain ⟨hA3, ch3, hat3, A3, k3, rfl, hb3⟩ := (h2.mono RWr.mono hm1).elem hy
        have hyl := q4 y (getElem_mem' hy)
        obtain ⟨y1, y2, y3⟩ := hyl
        repeat (first | ((with_reducible refine Tr.step rfl ?_); (first | ((with_reducible refine Knd.load ?_); ((refine Exec.stab rfl (Stab.loadMA rfl (tysOk.get rfl) rfl (by assumption) (by first | rfl | assumption)) rfl ?_))) | ((with_reducible refine Knd.binOp ?_); ((refine Exec.stab rfl (Stab.int rfl rfl rfl) rfl ?_))) | ((with_reducible refine Knd.store ?_); ((refine Exec.storeW rfl rfl (tysOk.get rfl) (by repeat (first | exact Upd.here | apply Upd.there)) rfl rfl (by repeat (first | exact AllOne.nil | refine AllOne.cons (by first | rfl | assumption) ?_)) ?_))) | ((with_reducible refine Knd.alloc ?_); ((refine Exec.alloc (tysOk.get rfl) rfl rfl (fun b => ?_)))) | ((with_reducible refine Knd.indexAddr ?_); ((refine Exec.stab rfl (Stab.indexAddr rfl rfl (tysOk.get rfl) rfl (tysOk.get rfl) rfl (by omega) (by omega) (by first | rfl | assumption)) rfl ?_))))) | (with_reducible refine Tr.next ?_) | (with_reducible refine Tr.seq ?_) | (with_reducible refine Tr.region ?_) | (with_reducible refine Tr.nil ?_) | (with_reducible refine Tr.skip ?_) | (with_reducible refine Tr.block ?_) | (refine Tr.cond_t rfl (by first | (with_reducible assumption) | omega) ?_))
        (((apply Tr.draw); (kernel_rfl)); (refine TrA.take 0 (by kernel_rfl) rfl (by kernel_rfl) (by exact fun _ _ _ h => h) (by exact fun _ h => h) rfl (by exact Stab.fieldZ rfl (tysOk.get rfl) rfl rfl (tysOk.get rfl) rfl) rfl rfl ?_); (refine TrA.take 1 (by kernel_rfl) rfl (by kernel_rfl) (by exact fun _ _ _ h => h) (by exact fun _ h => h) rfl (by exact Stab.load rfl (tysOk.get rfl) rfl (by repeat (first | exact Has.here | apply Has.there)) rfl) rfl rfl ?_); (refine TrA.take 2 (by kernel_rfl) rfl (by kernel_rfl) (by exact fun _ _ _ h => h) (by exact fun _ h => h) rfl (by exact Stab.fieldZ rfl (tysOk.get rfl) rfl rfl (tysOk.get rfl) rfl) rfl rfl ?_); (refine TrA.take 3 (by kernel_rfl) rfl (by kernel_rfl) (by exact fun _ _ _ h => h) (by exact fun _ h => h) rfl (by exact Stab.load rfl (tysOk.get rfl) rfl (by repeat (first | exact Has.here | apply Has.there)) rfl) rfl rfl ?_); (refine TrA.take 4 (by kernel_rfl) rfl (by kernel_rfl) (by exact fun _ _ _ h => h) (by exact fun _ h => h) rfl (by exact Stab.fieldZ rfl (tysOk.get rfl) rfl rfl (tysOk.get rfl) rfl) rfl rfl ?_); (refine TrA.take 5 (by kernel_rfl) rfl (by kernel_rfl) (by exact fun _ _ _ h => h) (by exact fun _ h => h) rfl (by exact Stab.load rfl (tysOk.get rfl) rfl (by repeat (first | exact Has.here | apply Has.there)) rfl) rfl rfl ?_); (refine TrA.eff 6 rfl (by kernel_rfl) (by exact .inl rfl) ?_))
        refine Exec.call0 rfl (sector_full M1 A3 k3 y.2 hb3 y3) rfl ?_
        rintro _ M2 hm2 ⟨A4, k4, rfl, hb4⟩
        refine ⟨hm2, (by exact fun _ h => h), ?_⟩
        ((refine TrA.take 7 (by kernel_rfl) rfl (by kernel_rfl) (by exact fun _ _ _ h => h) (by exact fun _ h => h) rfl (by exact Stab.indexB0 rfl rfl (tysOk.get rfl) rfl (tysOk.get rfl) rfl (by omega) (by omega)) rfl rfl ?_); (refine TrA.effD 8 rfl (by kernel_rfl) (by kernel_rfl) (by exact .inl rfl) ?_); (((refine Knd.store ?_); ((refine Exec.storeS rfl rfl (tysOk.get rfl) rfl (by first | rfl | assumption) (by repeat (first | exact Upd.here | apply Upd.there)) (by omega) ?_)))); (refine ⟨_, fun _ h => h, ?_⟩); (refine TrA.done (by kernel_rfl) ?_))
        repeat (first | ((with_reducible refine Tr.step rfl ?_); (first | ((with_reducible refine Knd.move ?_); (refine Exec.stab rfl (Stab.move rfl) rfl ?_)) | ((with_reducible refine Knd.binOp ?_); ((refine Exec.stab rfl (Stab.addi rfl rfl (by omega)) rfl ?_))))) | (with_reducible refine Tr.next ?_) | (with_reducible refine Tr.region ?_) | (with_reducible refine Tr.nil ?_) | (with_reducible refine Tr.in_normal ?_))
        have hps := perf_step (i := y.1.toNat) (perf_length sec (pen.take i)).symm hcs hone hel hm2 hb4
        refine Tr.again (i + 1, M2, _) ⟨by simp only; omega, hm1.trans hm2, hps.1, hps.2.1, by simp only; rw [perf_take hy]; exact hps.2.2⟩ (by simp only; omega) (holds_sub (by repeat (first | exact SubFr.nil | refine SubFr.cons rfl ?_)) (by repeat (first | exact DropL.refl | apply DropL.skip)))
      · have e : i = m := by omega
        subst e
        obtain ⟨y, hy⟩ := get_of_lt (show i < pen.length by omega)
        obtain ⟨hA3, ch3, hat3, A3, k3, rfl, hb3⟩ := (h2.mono RWr.mono hm1).elem hy
        obtain ⟨y1, y2, y3⟩ := q4 y (getElem_mem' hy)
        have hpl := perf_length sec (pen.take i)
        obtain ⟨z, hz⟩ := get_of_lt (show y.1.toNat < (perf sec (pen.take i)).length by omega)
        have hcap := BSl.cap hb3
        have hrow : Row M1 A3 64 1 (byteV (y.2.take 64)) := by
          have := hcap.2.take (k := 64) (by omega)
          rwa [byteV, ← List.map_take] at this
        obtain ⟨A5, k5, hcz0, hbz⟩ := sec_cell hel hz
        have hcz : nthL cs y.1.toNat = some (.slice A5 z.length k5) := by rw [nthL_eq]; exact hcz0
        have hzl : z.length = 128 := perf_all q0 (fun w hw => (q4 w (List.mem_of_mem_take hw)).2.2) z (getElem_mem' hz)
        repeat (first | ((with_reducible refine Tr.step rfl ?_); (first | ((with_reducible refine Knd.move ?_); (refine Exec.stab rfl (Stab.move rfl) rfl ?_)) | ((with_reducible refine Knd.load ?_); (first | (refine Exec.stab rfl (Stab.load rfl (tysOk.get rfl) rfl (by repeat (first | exact Has.here | apply Has.there)) rfl) rfl ?_) | (refine Exec.stab rfl (Stab.load rfl (tysOk.get rfl) rfl (by repeat (first | exact Has.here | apply Has.there)) (by assumption)) rfl ?_) | (refine Exec.stab rfl (Stab.loadMA rfl (tysOk.get rfl) rfl (by assumption) (by first | rfl | assumption)) rfl ?_))) | ((with_reducible refine Knd.fieldAddr ?_); ((refine Exec.stab rfl (Stab.fieldZ rfl (tysOk.get rfl) rfl rfl (tysOk.get rfl) rfl) rfl ?_))) | ((with_reducible refine Knd.binOp ?_); (first | (refine Exec.stab rfl (Stab.subi rfl rfl (by omega)) rfl ?_) | (refine Exec.stab rfl (Stab.int rfl rfl rfl) rfl ?_))) | ((with_reducible refine Knd.store ?_); (first | (refine Exec.store rfl rfl (tysOk.get rfl) rfl (by first | rfl | assumption) (by repeat (first | exact Upd.here | apply Upd.there)) (by repeat (first | exact SetL.z | apply SetL.s)) ?_) | (refine Exec.storeW rfl rfl (tysOk.get rfl) (by repeat (first | exact Upd.here | apply Upd.there)) rfl rfl (by repeat (first | exact AllOne.nil | refine AllOne.cons (by first | rfl | assumption) ?_)) ?_))) | ((with_reducible refine Knd.alloc ?_); ((refine Exec.alloc (tysOk.get rfl) rfl rfl (fun b => ?_)))) | ((with_reducible refine Knd.indexAddr ?_); (first | (refine Exec.stab rfl (Stab.indexB0 rfl rfl (tysOk.get rfl) rfl (tysOk.get rfl) rfl (by omega) (by omega)) rfl ?_) | (refine Exec.stab rfl (Stab.indexAddr rfl rfl (tysOk.get rfl) rfl (tysOk.get rfl) rfl (by omega) (by omega) (by first | rfl | assumption)) rfl ?_))))) | (with_reducible refine Tr.next ?_) | (with_reducible refine Tr.seq ?_) | (with_reducible refine Tr.region ?_) | (with_reducible refine Tr.nil ?_) | (with_reducible refine Tr.skip ?_) | (with_reducible refine Tr.exit ?_) | (with_reducible refine Tr.then_exit ?_) | ((with_reducible refine Tr.in_exit ?_ ?_); (exact rfl)) | (refine Tr.cond_t rfl (by first | (with_reducible assumption) | omega) ?_) | (refine Tr.cond_f rfl (by first | (with_reducible assumption) | omega) ?_))
        ((refine Tr.step rfl ?_))
        refine Exec.call (A := []) rfl (sector_own M1 A5 k5 z hbz (by omega)) (List.Perm.refl _) rfl ?_
        rintro _ _ _ - ⟨rfl, bz, rfl, rfl⟩
        repeat (first | ((with_reducible refine Tr.step rfl ?_); (first | ((with_reducible refine Knd.move ?_); (refine Exec.stab rfl (Stab.move rfl) rfl ?_)) | ((with_reducible refine Knd.assign ?_); (refine Exec.stab rfl (Stab.assign rfl) rfl ?_)) | ((with_reducible refine Knd.load ?_); ((refine Exec.stab rfl (Stab.load rfl (tysOk.get rfl) rfl (by repeat (first | exact Has.here | apply Has.there)) rfl) rfl ?_))) | ((with_reducible refine Knd.fieldAddr ?_); ((refine Exec.stab rfl (Stab.fieldZ rfl (tysOk.get rfl) rfl rfl (tysOk.get rfl) rfl) rfl ?_))) | ((with_reducible refine Knd.slice ?_); ((refine Exec.stab rfl (Stab.slice_h rfl rfl (tysOk.get rfl) rfl (tysOk.get rfl) (by omega) (by omega)) rfl ?_))))) | (with_reducible refine Tr.next ?_) | (with_reducible refine Tr.seq ?_) | (with_reducible refine Tr.region ?_) | (with_reducible refine Tr.nil ?_))
        ((refine Tr.step rfl ?_))
        refine Exec.copy (news := byteV (y.2.take 64)) rfl rfl (tysOk.get rfl) rfl (tysOk.get rfl) rfl (Src.row_min hrow) (by simp; omega) (byteV_one _) (by simp [pad_length (show z.length ≤ 128 by omega)]) Upd.here rfl ?_
        repeat (first | ((with_reducible refine Tr.step rfl ?_); (first | ((with_reducible refine Knd.move ?_); (refine Exec.stab rfl (Stab.move rfl) rfl ?_)) | ((with_reducible refine Knd.assign ?_); (refine Exec.stab rfl (Stab.assign rfl) rfl ?_)) | ((with_reducible refine Knd.load ?_); (first | (refine Exec.stab rfl (Stab.load rfl (tysOk.get rfl) rfl (by repeat (first | exact Has.here | apply Has.there)) rfl) rfl ?_) | (refine Exec.stab rfl (Stab.loadW rfl (tysOk.get rfl) rfl (by repeat (first | exact Has.here | apply Has.there)) rfl) rfl ?_))) | ((with_reducible refine Knd.fieldAddr ?_); ((refine Exec.stab rfl (Stab.fieldZ rfl (tysOk.get rfl) rfl rfl (tysOk.get rfl) rfl) rfl ?_))) | ((with_reducible refine Knd.store ?_); (first | (refine Exec.store rfl rfl (tysOk.get rfl) rfl (by first | rfl | assumption) (by repeat (first | exact Upd.here | apply Upd.there)) (by repeat (first | exact SetL.z | apply SetL.s)) ?_) | (refine Exec.storeW rfl rfl (tysOk.get rfl) (by repeat (first | exact Upd.here | apply Upd.there)) rfl rfl (by repeat (first | exact AllOne.nil | refine AllOne.cons (by first | rfl | assumption) ?_)) ?_) | (refine Exec.storeS rfl rfl (tysOk.get rfl) rfl (by first | rfl | assumption) (by repeat (first | exact Upd.here | apply Upd.there)) (by omega) ?_))) | ((with_reducible refine Knd.indexAddr ?_); ((refine Exec.stab rfl (Stab.indexB0 rfl rfl (tysOk.get rfl) rfl (tysOk.get rfl) rfl (by omega) (by omega)) rfl ?_))))) | (with_reducible refine Tr.next ?_) | (with_reducible refine Tr.seq ?_) | (with_reducible refine Tr.region ?_) | (with_reducible refine Tr.nil ?_) | (with_reducible refine Tr.ret ?_))
        have ec : List.take 0 (byteV (pad z)) ++ byteV (y.2.take 64) ++ List.drop (0 + (byteV (y.2.take 64)).length) (byteV (pad z)) = byteV (y.2.take 64 ++ z.drop 64) := by
          rw [pad_full hzl, byteV_append]
          simp [byteV, List.map_drop, y3]
        rw [ec]
        refine Tr.publish Del.here (fun M2 hm2 hok2 => ?_)
        refine Tr.publish (r := box g 35 _) (by repeat (first | exact Del.here | apply Del.there)) (fun M3 hm3 hok3 => ?_)
        have hm := (hm1.trans hm2).trans hm3
        have hxl : (y.2.take 64 ++ z.drop 64).length = 128 := by simp [y3, hzl]
        have hbx := BSl.of_box hok2 (by omega)
        have hps := perf_step (i := y.1.toNat) hpl.symm hcs hone hel (hm2.trans hm3) (hbx.mono hm3)
        rw [hxl] at hps
        (refine Tr.done (by first | exact .inl rfl | exact .inr rfl) rfl (by repeat (first | exact RVs.nil | (apply RVs.cons; (first | exact RV.tmp rfl | exact RV.cellW (by rfl) (tysOk.get (by rfl)) (by rfl) (by repeat (first | exact Has.here | apply Has.there)) (by first | rfl | assumption))))) (by first | exact Mem.le.refl _ | assumption) (by exact ⟨[_, _, _], rfl⟩) ⟨rfl, ?_⟩)
        have er : syncF ⟨sec, pen, i, stop⟩ = (⟨(perf sec (pen.take i)).set y.1.toNat (y.2.take 64 ++ z.drop 64), [], 0, true⟩, 440) := by
          unfold syncF
          rw [if_pos hk]
          dsimp only
          rw [if_pos ⟨hl1, hl2⟩]
          simp [hy, hz]
        rw [er]
        have hs := SlOf.ofBoxC (sz := 1) (R := RSec) (c := c') hok3 (show sec.length = ((perf sec (pen.take i)).set y.1.toNat (y.2.take 64 ++ z.drop 64)).length by simp [hpl]) (by rw [hps.1]; omega) hnc hc' (by rw [Nat.mul_one]; exact hps.2.1) (by rw [Nat.mul_one]; exact hps.2.2)
        have hsl : ((perf sec (pen.take i)).set y.1.toNat (y.2.take 64 ++ z.drop 64)).length = sec.length := by simp [hpl]
        refine ⟨_, rfl, some ⟨g, 0, none⟩, c', none, 0, ?_, hs, SlOf.nil _ _ _⟩
        dsimp only
        rw [hsl, Int.sub_self]
        rfl
    · by_cases hL : left = -1
      · skip
        repeat (first | ((with_reducible refine Tr.step rfl ?_); (first | ((with_reducible refine Knd.move ?_); (refine Exec.stab rfl (Stab.move rfl) rfl ?_)) | ((with_reducible refine Knd.assign ?_); (refine Exec.stab rfl (Stab.assign rfl) rfl ?_)) | ((with_reducible refine Knd.load ?_); (first | (refine Exec.stab rfl (Stab.load rfl (tysOk.get rfl) rfl (by repeat (first | exact Has.here | apply Has.there)) rfl) rfl ?_) | (refine Exec.stab rfl (Stab.loadW rfl (tysOk.get rfl) rfl (by repeat (first | exact Has.here | apply Has.there)) rfl) rfl ?_))) | ((with_reducible refine Knd.fieldAddr ?_); ((refine Exec.stab rfl (Stab.fieldZ rfl (tysOk.get rfl) rfl rfl (tysOk.get rfl) rfl) rfl ?_))) | ((with_reducible refine Knd.len ?_); ((refine Exec.stab rfl (Stab.len rfl (tysOk.get rfl) rfl) rfl ?_))) | ((with_reducible refine Knd.binOp ?_); ((refine Exec.stab rfl (Stab.int rfl rfl rfl) rfl ?_))) | ((with_reducible refine Knd.pick ?_); ((refine Exec.stab rfl (Stab.pick_fd rfl (by omega) rfl) rfl ?_))) | ((with_reducible refine Knd.store ?_); (first | (refine Exec.store rfl rfl (tysOk.get rfl) rfl (by first | rfl | assumption) (by repeat (first | exact Upd.here | apply Upd.there)) (by repeat (first | exact SetL.z | apply SetL.s)) ?_) | (refine Exec.storeW rfl rfl (tysOk.get rfl) (by repeat (first | exact Upd.here | apply Upd.there)) rfl rfl (by repeat (first | exact AllOne.nil | refine AllOne.cons (by first | rfl | assumption) ?_)) ?_))))) | (with_reducible refine Tr.next ?_) | (with_reducible refine Tr.seq ?_) | (with_reducible refine Tr.region ?_) | (with_reducible refine Tr.nil ?_) | (refine Tr.guard_n rfl rfl rfl (by first | (with_reducible assumption) | omega) rfl rfl ?_) | (with_reducible refine Tr.skip ?_) | (refine Tr.cond_bf rfl (by (with_reducible rfl)) ?_) | (refine Tr.cond_f rfl (by first | (with_reducible assumption) | (with_reducible exact (not_not_intro rfl))) ?_))
        ((refine Tr.step rfl ?_))
        refine Exec.call (A := []) rfl (clone_own M A c sec.length cells g5 g1 g2 g3 q1 q2) (List.Perm.refl _) rfl ?_
        rintro _ _ _ - ⟨rfl, A2, c', rfl, hc', rfl⟩
        refine Tr.own_open Del.here (by omega) (fun g cur hA2 hnc hcl hct => ?_)
        subst hA2
        rw [Nat.mul_one] at hcl hct
        repeat (first | ((with_reducible refine Tr.step rfl ?_); (first | ((with_reducible refine Knd.move ?_); (refine Exec.stab rfl (Stab.move rfl) rfl ?_)) | ((with_reducible refine Knd.load ?_); ((refine Exec.stab rfl (Stab.load rfl (tysOk.get rfl) rfl (by repeat (first | exact Has.here | apply Has.there)) rfl) rfl ?_))) | ((with_reducible refine Knd.fieldAddr ?_); ((refine Exec.stab rfl (Stab.fieldZ rfl (tysOk.get rfl) rfl rfl (tysOk.get rfl) rfl) rfl ?_))) | ((with_reducible refine Knd.len ?_); ((refine Exec.stab rfl (Stab.len rfl (tysOk.get rfl) rfl) rfl ?_))) | ((with_reducible refine Knd.store ?_); ((refine Exec.store rfl rfl (tysOk.get rfl) rfl (by first | rfl | assumption) (by repeat (first | exact Upd.here | apply Upd.there)) (by repeat (first | exact SetL.z | apply SetL.s)) ?_))) | ((with_reducible refine Knd.slice ?_); ((refine Exec.stab rfl (Stab.slice_hm rfl rfl rfl (tysOk.get rfl) rfl (tysOk.get rfl) (by omega) (by omega) (by omega)) rfl ?_))))) | (with_reducible refine Tr.next ?_) | (with_reducible refine Tr.seq ?_) | (with_reducible refine Tr.region ?_) | (with_reducible refine Tr.nil ?_) | (with_reducible refine Tr.block ?_))
        refine Tr.loop (α := Nat × Mem × List Value) (fun x => ⟨94, [(44, .int .i64 x.1), (43, .int .i64 (pen.length : Int)), (42, .slice B pen.length pen.length), (6, .int .i64 (pen.length : Int)), (5, .int .i64 pen.length), (3, .int .i64 0), (2, .pointer (some ⟨_, 0, none⟩)), (1, .pointer (some ⟨_, 0, none⟩))], [], x.2.1, box g 35 x.2.2 :: _⟩)
          (fun x => x.1 ≤ pen.length ∧ Mem.le M x.2.1 ∧ x.2.2.length = c' ∧ (∀ u ∈ x.2.2.take sec.length, u.oneCell' = true) ∧ Elems 1 RSec x.2.1 (x.2.2.take sec.length) (perf sec (pen.take x.1)))
          (fun x => pen.length - x.1) (0, M, cur) ⟨Nat.zero_le _, Mem.le.refl _, hcl, by rw [hct]; exact g5.one, by rw [hct]; exact g6⟩ (holds_sub (by repeat (first | exact SubFr.nil | refine SubFr.cons rfl ?_)) (by repeat (first | exact DropL.refl | apply DropL.skip))) (fun x hi => ?_)
        obtain ⟨i, M1, cs⟩ := x
        obtain ⟨hi, hm1, hcs, hone, hel⟩ := hi
        simp only at hi hm1 hcs hone hel
        dsimp only
        by_cases hlt : i < pen.length
        · obtain ⟨y, hy⟩ := get_of_lt (show i < pen.length by omega)
          obtain ⟨hA3, ch3, hat3, A3, k3, rfl, hb3⟩ := (h2.mono RWr.mono hm1).elem hy
          have hyl := q4 y (getElem_mem' hy)
          obtain ⟨y1, y2, y3⟩ := hyl
          repeat (first | ((with_reducible refine Tr.step rfl ?_); (first | ((with_reducible refine Knd.load ?_); ((refine Exec.stab rfl (Stab.loadMA rfl (tysOk.get rfl) rfl (by assumption) (by first | rfl | assumption)) rfl ?_))) | ((with_reducible refine Knd.binOp ?_); ((refine Exec.stab rfl (Stab.int rfl rfl rfl) rfl ?_))) | ((with_reducible refine Knd.store ?_); ((refine Exec.storeW rfl rfl (tysOk.get rfl) (by repeat (first | exact Upd.here | apply Upd.there)) rfl rfl (by repeat (first | exact AllOne.nil | refine AllOne.cons (by first | rfl | assumption) ?_)) ?_))) | ((with_reducible refine Knd.alloc ?_); ((refine Exec.alloc (tysOk.get rfl) rfl rfl (fun b => ?_)))) | ((with_reducible refine Knd.indexAddr ?_); ((refine Exec.stab rfl (Stab.indexAddr rfl rfl (tysOk.get rfl) rfl (tysOk.get rfl) rfl (by omega) (by omega) (by first | rfl | assumption)) rfl ?_))))) | (with_reducible refine Tr.next ?_) | (with_reducible refine Tr.seq ?_) | (with_reducible refine Tr.region ?_) | (with_reducible refine Tr.nil ?_) | (with_reducible refine Tr.skip ?_) | (with_reducible refine Tr.block ?_) | (refine Tr.cond_t rfl (by first | (with_reducible assumption) | omega) ?_))
          (((apply Tr.draw); (kernel_rfl)); (refine TrA.take 0 (by kernel_rfl) rfl (by kernel_rfl) (by exact fun _ _ _ h => h) (by exact fun _ h => h) rfl (by exact Stab.fieldZ rfl (tysOk.get rfl) rfl rfl (tysOk.get rfl) rfl) rfl rfl ?_); (refine TrA.take 1 (by kernel_rfl) rfl (by kernel_rfl) (by exact fun _ _ _ h => h) (by exact fun _ h => h) rfl (by exact Stab.load rfl (tysOk.get rfl) rfl (by repeat (first | exact Has.here | apply Has.there)) rfl) rfl rfl ?_); (refine TrA.take 2 (by kernel_rfl) rfl (by kernel_rfl) (by exact fun _ _ _ h => h) (by exact fun _ h => h) rfl (by exact Stab.fieldZ rfl (tysOk.get rfl) rfl rfl (tysOk.get rfl) rfl) rfl rfl ?_); (refine TrA.take 3 (by kernel_rfl) rfl (by kernel_rfl) (by exact fun _ _ _ h => h) (by exact fun _ h => h) rfl (by exact Stab.load rfl (tysOk.get rfl) rfl (by repeat (first | exact Has.here | apply Has.there)) rfl) rfl rfl ?_); (refine TrA.take 4 (by kernel_rfl) rfl (by kernel_rfl) (by exact fun _ _ _ h => h) (by exact fun _ h => h) rfl (by exact Stab.fieldZ rfl (tysOk.get rfl) rfl rfl (tysOk.get rfl) rfl) rfl rfl ?_); (refine TrA.take 5 (by kernel_rfl) rfl (by kernel_rfl) (by exact fun _ _ _ h => h) (by exact fun _ h => h) rfl (by exact Stab.load rfl (tysOk.get rfl) rfl (by repeat (first | exact Has.here | apply Has.there)) rfl) rfl rfl ?_); (refine TrA.eff 6 rfl (by kernel_rfl) (by exact .inl rfl) ?_))
          refine Exec.call0 rfl (sector_full M1 A3 k3 y.2 hb3 y3) rfl ?_
          rintro _ M2 hm2 ⟨A4, k4, rfl, hb4⟩
          refine ⟨hm2, (by exact fun _ h => h), ?_⟩
          ((refine TrA.take 7 (by kernel_rfl) rfl (by kernel_rfl) (by exact fun _ _ _ h => h) (by exact fun _ h => h) rfl (by exact Stab.indexB0 rfl rfl (tysOk.get rfl) rfl (tysOk.get rfl) rfl (by omega) (by omega)) rfl rfl ?_); (refine TrA.effD 8 rfl (by kernel_rfl) (by kernel_rfl) (by exact .inl rfl) ?_); (((refine Knd.store ?_); ((refine Exec.storeS rfl rfl (tysOk.get rfl) rfl (by first | rfl | assumption) (by repeat (first | exact Upd.here | apply Upd.there)) (by omega) ?_)))); (refine ⟨_, fun _ h => h, ?_⟩); (refine TrA.done (by kernel_rfl) ?_))
          repeat (first | ((with_reducible refine Tr.step rfl ?_); (first | ((with_reducible refine Knd.move ?_); (refine Exec.stab rfl (Stab.move rfl) rfl ?_)) | ((with_reducible refine Knd.binOp ?_); ((refine Exec.stab rfl (Stab.addi rfl rfl (by omega)) rfl ?_))))) | (with_reducible refine Tr.next ?_) | (with_reducible refine Tr.region ?_) | (with_reducible refine Tr.nil ?_) | (with_reducible refine Tr.in_normal ?_))
          have hps := perf_step (i := y.1.toNat) (perf_length sec (pen.take i)).symm hcs hone hel hm2 hb4
          refine Tr.again (i + 1, M2, _) ⟨by simp only; omega, hm1.trans hm2, hps.1, hps.2.1, by simp only; rw [perf_take hy]; exact hps.2.2⟩ (by simp only; omega) (holds_sub (by repeat (first | exact SubFr.nil | refine SubFr.cons rfl ?_)) (by repeat (first | exact DropL.refl | apply DropL.skip)))
        · have e : i = pen.length := by omega
          subst e
          repeat (first | ((with_reducible refine Tr.step rfl ?_); (first | ((with_reducible refine Knd.move ?_); (refine Exec.stab rfl (Stab.move rfl) rfl ?_)) | ((with_reducible refine Knd.assign ?_); (refine Exec.stab rfl (Stab.assign rfl) rfl ?_)) | ((with_reducible refine Knd.load ?_); (first | (refine Exec.stab rfl (Stab.load rfl (tysOk.get rfl) rfl (by repeat (first | exact Has.here | apply Has.there)) rfl) rfl ?_) | (refine Exec.stab rfl (Stab.loadW rfl (tysOk.get rfl) rfl (by repeat (first | exact Has.here | apply Has.there)) rfl) rfl ?_))) | ((with_reducible refine Knd.fieldAddr ?_); ((refine Exec.stab rfl (Stab.fieldZ rfl (tysOk.get rfl) rfl rfl (tysOk.get rfl) rfl) rfl ?_))) | ((with_reducible refine Knd.binOp ?_); ((refine Exec.stab rfl (Stab.int rfl rfl rfl) rfl ?_))) | ((with_reducible refine Knd.store ?_); ((refine Exec.storeW rfl rfl (tysOk.get rfl) (by repeat (first | exact Upd.here | apply Upd.there)) rfl rfl (by repeat (first | exact AllOne.nil | refine AllOne.cons (by first | rfl | assumption) ?_)) ?_))))) | (with_reducible refine Tr.next ?_) | (with_reducible refine Tr.seq ?_) | (with_reducible refine Tr.region ?_) | (with_reducible refine Tr.nil ?_) | (with_reducible refine Tr.skip ?_) | (with_reducible refine Tr.exit ?_) | (with_reducible refine Tr.ret ?_) | (with_reducible refine Tr.then_exit ?_) | (with_reducible refine Tr.then_ret ?_) | ((with_reducible refine Tr.in_exit ?_ ?_); (exact rfl)) | (refine Tr.cond_t rfl (by first | (with_reducible assumption) | (with_reducible rfl)) ?_) | (refine Tr.cond_f rfl (by first | (with_reducible assumption) | omega) ?_))
          refine Tr.publish (r := box g 35 _) (by repeat (first | exact Del.here | apply Del.there)) (fun M3 hm3 hok3 => ?_)
          have hm := hm1.trans hm3
          (refine Tr.done (by first | exact .inl rfl | exact .inr rfl) rfl (by repeat (first | exact RVs.nil | (apply RVs.cons; (first | exact RV.tmp rfl | exact RV.cellW (by rfl) (tysOk.get (by rfl)) (by rfl) (by repeat (first | exact Has.here | apply Has.there)) (by first | rfl | assumption))))) (by first | exact Mem.le.refl _ | assumption) (by exact ⟨[_, _], rfl⟩) ⟨rfl, ?_⟩)
          rw [List.take_length] at hel
          have hpl := perf_length sec pen
          have er : syncF ⟨sec, pen, left, stop⟩ = (⟨perf sec pen, [], if 0 ≤ left then left - pen.length else -1, false⟩, 0) := by
            unfold syncF
            rw [if_pos hk]
            dsimp only
            rw [if_neg hl]
          rw [er]
          have hs := SlOf.ofBoxC (sz := 1) (R := RSec) (c := c') hok3 hpl.symm (by rw [hcs]; omega) hnc hc' (by rw [Nat.mul_one]; exact hone) (by rw [Nat.mul_one]; exact hel.mono RSec.mono hm3)
          refine ⟨_, rfl, some ⟨g, 0, none⟩, c', none, 0, ?_, hs, SlOf.nil _ _ _⟩
          dsimp only
          rw [hpl, q7, if_neg (by omega), hL]
          rfl
      · have hL2 : (pen.length : Int) ≤ left := by omega
        repeat (first | ((with_reducible refine Tr.step rfl ?_); (first | ((with_reducible refine Knd.move ?_); (refine Exec.stab rfl (Stab.move rfl) rfl ?_)) | ((with_reducible refine Knd.assign ?_); (refine Exec.stab rfl (Stab.assign rfl) rfl ?_)) | ((with_reducible refine Knd.load ?_); (first | (refine Exec.stab rfl (Stab.load rfl (tysOk.get rfl) rfl (by repeat (first | exact Has.here | apply Has.there)) rfl) rfl ?_) | (refine Exec.stab rfl (Stab.loadW rfl (tysOk.get rfl) rfl (by repeat (first | exact Has.here | apply Has.there)) rfl) rfl ?_))) | ((with_reducible refine Knd.fieldAddr ?_); ((refine Exec.stab rfl (Stab.fieldZ rfl (tysOk.get rfl) rfl rfl (tysOk.get rfl) rfl) rfl ?_))) | ((with_reducible refine Knd.len ?_); ((refine Exec.stab rfl (Stab.len rfl (tysOk.get rfl) rfl) rfl ?_))) | ((with_reducible refine Knd.binOp ?_); ((refine Exec.stab rfl (Stab.int rfl rfl rfl) rfl ?_))) | ((with_reducible refine Knd.pick ?_); ((refine Exec.stab rfl (Stab.pick_td rfl (by (with_reducible assumption)) rfl) rfl ?_))) | ((with_reducible refine Knd.store ?_); (first | (refine Exec.store rfl rfl (tysOk.get rfl) rfl (by first | rfl | assumption) (by repeat (first | exact Upd.here | apply Upd.there)) (by repeat (first | exact SetL.z | apply SetL.s)) ?_) | (refine Exec.storeW rfl rfl (tysOk.get rfl) (by repeat (first | exact Upd.here | apply Upd.there)) rfl rfl (by repeat (first | exact AllOne.nil | refine AllOne.cons (by first | rfl | assumption) ?_)) ?_))))) | (with_reducible refine Tr.next ?_) | (with_reducible refine Tr.seq ?_) | (with_reducible refine Tr.region ?_) | (with_reducible refine Tr.nil ?_) | ((refine Tr.guard_y rfl rfl rfl (by (with_reducible assumption)) ?_); (first | ((with_reducible refine Knd.move ?_); (refine Exec.stab rfl (Stab.move rfl) rfl ?_)) | ((with_reducible refine Knd.load ?_); ((refine Exec.stab rfl (Stab.load rfl (tysOk.get rfl) rfl (by repeat (first | exact Has.here | apply Has.there)) rfl) rfl ?_))) | ((with_reducible refine Knd.fieldAddr ?_); ((refine Exec.stab rfl (Stab.fieldZ rfl (tysOk.get rfl) rfl rfl (tysOk.get rfl) rfl) rfl ?_))) | ((with_reducible refine Knd.binOp ?_); ((refine Exec.stab rfl (Stab.int rfl rfl rfl) rfl ?_))))) | (with_reducible refine Tr.skip ?_) | (refine Tr.cond_f rfl (by first | (with_reducible assumption) | (with_reducible exact (not_not_intro rfl)) | omega) ?_))
        ((refine Tr.step rfl ?_))
        refine Exec.call (A := []) rfl (clone_own M A c sec.length cells g5 g1 g2 g3 q1 q2) (List.Perm.refl _) rfl ?_
        rintro _ _ _ - ⟨rfl, A2, c', rfl, hc', rfl⟩
        refine Tr.own_open Del.here (by omega) (fun g cur hA2 hnc hcl hct => ?_)
        subst hA2
        rw [Nat.mul_one] at hcl hct
        repeat (first | ((with_reducible refine Tr.step rfl ?_); (first | ((with_reducible refine Knd.move ?_); (refine Exec.stab rfl (Stab.move rfl) rfl ?_)) | ((with_reducible refine Knd.load ?_); ((refine Exec.stab rfl (Stab.load rfl (tysOk.get rfl) rfl (by repeat (first | exact Has.here | apply Has.there)) rfl) rfl ?_))) | ((with_reducible refine Knd.fieldAddr ?_); ((refine Exec.stab rfl (Stab.fieldZ rfl (tysOk.get rfl) rfl rfl (tysOk.get rfl) rfl) rfl ?_))) | ((with_reducible refine Knd.len ?_); ((refine Exec.stab rfl (Stab.len rfl (tysOk.get rfl) rfl) rfl ?_))) | ((with_reducible refine Knd.store ?_); ((refine Exec.store rfl rfl (tysOk.get rfl) rfl (by first | rfl | assumption) (by repeat (first | exact Upd.here | apply Upd.there)) (by repeat (first | exact SetL.z | apply SetL.s)) ?_))) | ((with_reducible refine Knd.slice ?_); ((refine Exec.stab rfl (Stab.slice_hm rfl rfl rfl (tysOk.get rfl) rfl (tysOk.get rfl) (by omega) (by omega) (by omega)) rfl ?_))))) | (with_reducible refine Tr.next ?_) | (with_reducible refine Tr.seq ?_) | (with_reducible refine Tr.region ?_) | (with_reducible refine Tr.nil ?_) | (with_reducible refine Tr.block ?_))
        refine Tr.loop (α := Nat × Mem × List Value) (fun x => ⟨94, [(44, .int .i64 x.1), (43, .int .i64 (pen.length : Int)), (42, .slice B pen.length pen.length), (6, .int .i64 (pen.length : Int)), (5, .int .i64 pen.length), (3, .int .i64 0), (2, .pointer (some ⟨_, 0, none⟩)), (1, .pointer (some ⟨_, 0, none⟩))], [], x.2.1, box g 35 x.2.2 :: _⟩)
          (fun x => x.1 ≤ pen.length ∧ Mem.le M x.2.1 ∧ x.2.2.length = c' ∧ (∀ u ∈ x.2.2.take sec.length, u.oneCell' = true) ∧ Elems 1 RSec x.2.1 (x.2.2.take sec.length) (perf sec (pen.take x.1)))
          (fun x => pen.length - x.1) (0, M, cur) ⟨Nat.zero_le _, Mem.le.refl _, hcl, by rw [hct]; exact g5.one, by rw [hct]; exact g6⟩ (holds_sub (by repeat (first | exact SubFr.nil | refine SubFr.cons rfl ?_)) (by repeat (first | exact DropL.refl | apply DropL.skip))) (fun x hi => ?_)
        obtain ⟨i, M1, cs⟩ := x
        obtain ⟨hi, hm1, hcs, hone, hel⟩ := hi
        simp only at hi hm1 hcs hone hel
        dsimp only
        by_cases hlt : i < pen.length
        · obtain ⟨y, hy⟩ := get_of_lt (show i < pen.length by omega)
          obtain ⟨hA3, ch3, hat3, A3, k3, rfl, hb3⟩ := (h2.mono RWr.mono hm1).elem hy
          have hyl := q4 y (getElem_mem' hy)
          obtain ⟨y1, y2, y3⟩ := hyl
          repeat (first | ((with_reducible refine Tr.step rfl ?_); (first | ((with_reducible refine Knd.load ?_); ((refine Exec.stab rfl (Stab.loadMA rfl (tysOk.get rfl) rfl (by assumption) (by first | rfl | assumption)) rfl ?_))) | ((with_reducible refine Knd.binOp ?_); ((refine Exec.stab rfl (Stab.int rfl rfl rfl) rfl ?_))) | ((with_reducible refine Knd.store ?_); ((refine Exec.storeW rfl rfl (tysOk.get rfl) (by repeat (first | exact Upd.here | apply Upd.there)) rfl rfl (by repeat (first | exact AllOne.nil | refine AllOne.cons (by first | rfl | assumption) ?_)) ?_))) | ((with_reducible refine Knd.alloc ?_); ((refine Exec.alloc (tysOk.get rfl) rfl rfl (fun b => ?_)))) | ((with_reducible refine Knd.indexAddr ?_); ((refine Exec.stab rfl (Stab.indexAddr rfl rfl (tysOk.get rfl) rfl (tysOk.get rfl) rfl (by omega) (by omega) (by first | rfl | assumption)) rfl ?_))))) | (with_reducible refine Tr.next ?_) | (with_reducible refine Tr.seq ?_) | (with_reducible refine Tr.region ?_) | (with_reducible refine Tr.nil ?_) | (with_reducible refine Tr.skip ?_) | (with_reducible refine Tr.block ?_) | (refine Tr.cond_t rfl (by first | (with_reducible assumption) | omega) ?_))
          (((apply Tr.draw); (kernel_rfl)); (refine TrA.take 0 (by kernel_rfl) rfl (by kernel_rfl) (by exact fun _ _ _ h => h) (by exact fun _ h => h) rfl (by exact Stab.fieldZ rfl (tysOk.get rfl) rfl rfl (tysOk.get rfl) rfl) rfl rfl ?_); (refine TrA.take 1 (by kernel_rfl) rfl (by kernel_rfl) (by exact fun _ _ _ h => h) (by exact fun _ h => h) rfl (by exact Stab.load rfl (tysOk.get rfl) rfl (by repeat (first | exact Has.here | apply Has.there)) rfl) rfl rfl ?_); (refine TrA.take 2 (by kernel_rfl) rfl (by kernel_rfl) (by exact fun _ _ _ h => h) (by exact fun _ h => h) rfl (by exact Stab.fieldZ rfl (tysOk.get rfl) rfl rfl (tysOk.get rfl) rfl) rfl rfl ?_); (refine TrA.take 3 (by kernel_rfl) rfl (by kernel_rfl) (by exact fun _ _ _ h => h) (by exact fun _ h => h) rfl (by exact Stab.load rfl (tysOk.get rfl) rfl (by repeat (first | exact Has.here | apply Has.there)) rfl) rfl rfl ?_); (refine TrA.take 4 (by kernel_rfl) rfl (by kernel_rfl) (by exact fun _ _ _ h => h) (by exact fun _ h => h) rfl (by exact Stab.fieldZ rfl (tysOk.get rfl) rfl rfl (tysOk.get rfl) rfl) rfl rfl ?_); (refine TrA.take 5 (by kernel_rfl) rfl (by kernel_rfl) (by exact fun _ _ _ h => h) (by exact fun _ h => h) rfl (by exact Stab.load rfl (tysOk.get rfl) rfl (by repeat (first | exact Has.here | apply Has.there)) rfl) rfl rfl ?_); (refine TrA.eff 6 rfl (by kernel_rfl) (by exact .inl rfl) ?_))
          refine Exec.call0 rfl (sector_full M1 A3 k3 y.2 hb3 y3) rfl ?_
          rintro _ M2 hm2 ⟨A4, k4, rfl, hb4⟩
          refine ⟨hm2, (by exact fun _ h => h), ?_⟩
          ((refine TrA.take 7 (by kernel_rfl) rfl (by kernel_rfl) (by exact fun _ _ _ h => h) (by exact fun _ h => h) rfl (by exact Stab.indexB0 rfl rfl (tysOk.get rfl) rfl (tysOk.get rfl) rfl (by omega) (by omega)) rfl rfl ?_); (refine TrA.effD 8 rfl (by kernel_rfl) (by kernel_rfl) (by exact .inl rfl) ?_); (((refine Knd.store ?_); ((refine Exec.storeS rfl rfl (tysOk.get rfl) rfl (by first | rfl | assumption) (by repeat (first | exact Upd.here | apply Upd.there)) (by omega) ?_)))); (refine ⟨_, fun _ h => h, ?_⟩); (refine TrA.done (by kernel_rfl) ?_))
          repeat (first | ((with_reducible refine Tr.step rfl ?_); (first | ((with_reducible refine Knd.move ?_); (refine Exec.stab rfl (Stab.move rfl) rfl ?_)) | ((with_reducible refine Knd.binOp ?_); ((refine Exec.stab rfl (Stab.addi rfl rfl (by omega)) rfl ?_))))) | (with_reducible refine Tr.next ?_) | (with_reducible refine Tr.region ?_) | (with_reducible refine Tr.nil ?_) | (with_reducible refine Tr.in_normal ?_))
          have hps := perf_step (i := y.1.toNat) (perf_length sec (pen.take i)).symm hcs hone hel hm2 hb4
          refine Tr.again (i + 1, M2, _) ⟨by simp only; omega, hm1.trans hm2, hps.1, hps.2.1, by simp only; rw [perf_take hy]; exact hps.2.2⟩ (by simp only; omega) (holds_sub (by repeat (first | exact SubFr.nil | refine SubFr.cons rfl ?_)) (by repeat (first | exact DropL.refl | apply DropL.skip)))
        · have e : i = pen.length := by omega
          subst e
          repeat (first | ((with_reducible refine Tr.step rfl ?_); (first | ((with_reducible refine Knd.move ?_); (refine Exec.stab rfl (Stab.move rfl) rfl ?_)) | ((with_reducible refine Knd.assign ?_); (refine Exec.stab rfl (Stab.assign rfl) rfl ?_)) | ((with_reducible refine Knd.load ?_); (first | (refine Exec.stab rfl (Stab.load rfl (tysOk.get rfl) rfl (by repeat (first | exact Has.here | apply Has.there)) rfl) rfl ?_) | (refine Exec.stab rfl (Stab.loadW rfl (tysOk.get rfl) rfl (by repeat (first | exact Has.here | apply Has.there)) rfl) rfl ?_))) | ((with_reducible refine Knd.fieldAddr ?_); ((refine Exec.stab rfl (Stab.fieldZ rfl (tysOk.get rfl) rfl rfl (tysOk.get rfl) rfl) rfl ?_))) | ((with_reducible refine Knd.binOp ?_); (first | (refine Exec.stab rfl (Stab.subi rfl rfl (by omega)) rfl ?_) | (refine Exec.stab rfl (Stab.int rfl rfl rfl) rfl ?_))) | ((with_reducible refine Knd.store ?_); (first | (refine Exec.store rfl rfl (tysOk.get rfl) rfl (by first | rfl | assumption) (by repeat (first | exact Upd.here | apply Upd.there)) (by repeat (first | exact SetL.z | apply SetL.s)) ?_) | (refine Exec.storeW rfl rfl (tysOk.get rfl) (by repeat (first | exact Upd.here | apply Upd.there)) rfl rfl (by repeat (first | exact AllOne.nil | refine AllOne.cons (by first | rfl | assumption) ?_)) ?_))))) | (with_reducible refine Tr.next ?_) | (with_reducible refine Tr.seq ?_) | (with_reducible refine Tr.region ?_) | (with_reducible refine Tr.nil ?_) | (with_reducible refine Tr.exit ?_) | (with_reducible refine Tr.ret ?_) | (with_reducible refine Tr.then_exit ?_) | (with_reducible refine Tr.then_ret ?_) | ((with_reducible refine Tr.in_exit ?_ ?_); (exact rfl)) | (refine Tr.cond_t rfl (by first | (with_reducible assumption) | (with_reducible rfl)) ?_) | (refine Tr.cond_f rfl (by first | (with_reducible assumption) | omega) ?_))
          refine Tr.publish (r := box g 35 _) (by repeat (first | exact Del.here | apply Del.there)) (fun M3 hm3 hok3 => ?_)
          have hm := hm1.trans hm3
          (refine Tr.done (by first | exact .inl rfl | exact .inr rfl) rfl (by repeat (first | exact RVs.nil | (apply RVs.cons; (first | exact RV.tmp rfl | exact RV.cellW (by rfl) (tysOk.get (by rfl)) (by rfl) (by repeat (first | exact Has.here | apply Has.there)) (by first | rfl | assumption))))) (by first | exact Mem.le.refl _ | assumption) (by exact ⟨[_, _], rfl⟩) ⟨rfl, ?_⟩)
          rw [List.take_length] at hel
          have hpl := perf_length sec pen
          have er : syncF ⟨sec, pen, left, stop⟩ = (⟨perf sec pen, [], if 0 ≤ left then left - pen.length else -1, false⟩, 0) := by
            unfold syncF
            rw [if_pos hk]
            dsimp only
            rw [if_neg hl]
          rw [er]
          have hs := SlOf.ofBoxC (sz := 1) (R := RSec) (c := c') hok3 hpl.symm (by rw [hcs]; omega) hnc hc' (by rw [Nat.mul_one]; exact hone) (by rw [Nat.mul_one]; exact hel.mono RSec.mono hm3)
          refine ⟨_, rfl, some ⟨g, 0, none⟩, c', none, 0, ?_, hs, SlOf.nil _ _ _⟩
          dsimp only
          rw [hpl, q7, if_pos (by omega)]
          rfl
  · ((refine Tr.step rfl ?_)); refine Exec.call0 rfl (running_n M _ _ hD hk) rfl ?_
    rintro _ _ _ ⟨rfl, rfl⟩
    repeat (first | ((with_reducible refine Tr.step rfl ?_); (first | ((with_reducible refine Knd.move ?_); (refine Exec.stab rfl (Stab.move rfl) rfl ?_)) | ((with_reducible refine Knd.assign ?_); (refine Exec.stab rfl (Stab.assign rfl) rfl ?_)) | ((with_reducible refine Knd.binOp ?_); ((refine Exec.stab rfl (Stab.int rfl rfl rfl) rfl ?_))) | ((with_reducible refine Knd.store ?_); ((refine Exec.storeW rfl rfl (tysOk.get rfl) (by repeat (first | exact Upd.here | apply Upd.there)) rfl rfl (by repeat (first | exact AllOne.nil | refine AllOne.cons (by first | rfl | assumption) ?_)) ?_))) | ((with_reducible refine Knd.build ?_); ((refine Exec.stab rfl (Stab.build tysOk rfl rfl rfl rfl (by repeat (exact BuildP.nil))) rfl ?_))))) | (with_reducible refine Tr.next ?_) | (with_reducible refine Tr.seq ?_) | (with_reducible refine Tr.region ?_) | (with_reducible refine Tr.nil ?_) | (with_reducible refine Tr.ret ?_) | (with_reducible refine Tr.then_ret ?_) | (refine Tr.cond_t rfl (by first | (with_reducible assumption) | omega) ?_))
    (refine Tr.done (by first | exact .inl rfl | exact .inr rfl) rfl (by repeat (first | exact RVs.nil | (apply RVs.cons; (first | exact RV.tmp rfl | exact RV.cellW (by rfl) (tysOk.get (by rfl)) (by rfl) (by repeat (first | exact Has.here | apply Has.there)) (by first | rfl | assumption))))) (by first | exact Mem.le.refl _ | assumption) (by exact ⟨[_, _], rfl⟩) ⟨rfl, ?_⟩)
    unfold syncF
    rw [if_neg hk]
    exact ⟨_, rfl, RDisk.zero M⟩
end Go.Proofs.Ytkbggengagockaa
/-
  The journal: numbers of bytes, the checksum, how many sectors records occupy.
  Conditions: none.
-/
namespace Go.Proofs.Ytkbggengagockaa
open Go Bf
attribute [local irreducible] Tr Exec Stab HasTy Go.Addr.add IntKind.wrap
/-- the number that bytes represent -/
def be (l : List UInt8) : Nat := l.foldl (fun n b => 256 * n + b.toNat) 0
theorem be_four (a b c d : UInt8) : be [a, b, c, d] = a.toNat * 16777216 + b.toNat * 65536 + c.toNat * 256 + d.toNat := by
  simp only [be, List.foldl_cons, List.foldl_nil]; omega
def crcS (n : UInt32) : UInt32 := if n &&& 1 = 1 then (n >>> 1) ^^^ 3988292384 else n >>> 1
/-- so many steps -/
def crcK : Nat → UInt32 → UInt32
  | 0, n => n
  | k + 1, n => crcS (crcK k n)
def crcB (n : UInt32) (b : UInt8) : UInt32 := crcK 8 (n ^^^ b.toUInt32)
def crcR (l : List UInt8) : UInt32 := l.foldl crcB 4294967295
def crc (l : List UInt8) : UInt32 := ~~~ (crcR l)
theorem crcR_take {l : List UInt8} {i : Nat} {x : UInt8} (h : l[i]? = some x) : crcR (l.take (i + 1)) = crcB (crcR (l.take i)) x := by
  rw [List.take_add_one, h]
  simp [crcR, List.foldl_append]
theorem crcS_odd {n : UInt32} (h : ((n &&& 1).toNat : Int) = 1) : (n >>> 1) ^^^ 3988292384 = crcS n := by
  have : n &&& 1 = 1 := UInt32.toNat_inj.1 (by rw [show (1 : UInt32).toNat = 1 from rfl]; omega)
  rw [crcS, if_pos this]
theorem crcS_even {n : UInt32} (h : ¬ ((n &&& 1).toNat : Int) = 1) : n >>> 1 = crcS n := by
  have : ¬ n &&& 1 = 1 := fun e => h (by rw [e]; rfl)
  rw [crcS, if_neg this]
/-- how many sectors a record occupies -/
def occ (n : Nat) : Nat := max 1 ((n + 111) / 112)
def occs (l : List (List UInt8)) : Nat := (l.map fun b => occ b.length).sum
theorem occs_take {l : List (List UInt8)} {i : Nat} {x : List UInt8} (h : l[i]? = some x) : occs (l.take (i + 1)) = occs (l.take i) + occ x.length := by
  rw [List.take_add_one, h]
  simp [occs]
theorem occs_split (l : List (List UInt8)) (i : Nat) : occs l = occs (l.take i) + occs (l.drop i) := by
  conv => lhs; rw [← List.take_append_drop i l]
  simp only [occs, List.map_append, List.sum_append]
theorem occs_le (l : List (List UInt8)) (i : Nat) : occs (l.take i) ≤ occs l := by have := occs_split l i; omega
theorem occ_le (n : Nat) : n ≤ 112 * occ n := by unfold occ; omega
theorem occ_pos (n : Nat) : 1 ≤ occ n := by unfold occ; omega

set_option maxHeartbeats 1000000 in
theorem occupies_fn (M : Mem) (n : Nat) (hn : n ≤ 9223372036854775000) :
    Fn0 Try.prog 36 [.int .i64 (n : Int)] M (fun r M' => r = .int .i64 ((occ n : Nat) : Int) ∧ M = M') := by
  refine Fn.intro Try.func36 rfl rfl Try.ntmps36 rfl fun E F => ?_
  repeat (first | ((with_reducible refine Tr.step rfl ?_); (first | ((with_reducible refine Knd.move ?_); (refine Exec.stab rfl (Stab.move rfl) rfl ?_)) | ((with_reducible refine Knd.assign ?_); (refine Exec.stab rfl (Stab.assign rfl) rfl ?_)) | ((with_reducible refine Knd.max ?_); (refine Exec.stab rfl (Stab.max2 rfl rfl) rfl ?_)) | ((with_reducible refine Knd.binOp ?_); (first | (refine Exec.stab rfl (Stab.addi rfl rfl (by omega)) rfl ?_) | (refine Exec.stab rfl (Stab.subi rfl rfl (by omega)) rfl ?_) | (refine Exec.stab rfl (Stab.quoi rfl rfl (by omega) (by omega) (by omega)) rfl ?_))))) | (with_reducible refine Tr.next ?_) | (with_reducible refine Tr.seq ?_) | (with_reducible refine Tr.region ?_) | (with_reducible refine Tr.nil ?_) | (with_reducible refine Tr.ret ?_))
  (refine Tr.done (by first | exact .inl rfl | exact .inr rfl) rfl (by repeat (first | exact RVs.nil | (apply RVs.cons; (exact RV.tmp rfl)))) (by first | exact Mem.le.refl _ | assumption) (by exact ⟨[], rfl⟩) ⟨rfl, ?_⟩)
  refine ⟨?_, rfl⟩
  have e : max (1 : Int) (((n : Int) + 112 - 1) / 112) = ((occ n : Nat) : Int) := by unfold occ; omega
  exact congrArg (Value.int .i64) e

set_option maxHeartbeats 1000000 in
theorem occupied_fn (M : Mem) (A : Option Addr) (c : Nat) (l : List (List UInt8)) (h : SlOf 1 RSec M (.slice A l.length c) l) (hb : occs l ≤ 1000000000) :
    Fn0 Try.prog 37 [.slice A l.length c] M (fun r M' => r = .int .i64 ((occs l : Nat) : Int) ∧ M = M') := by
  have hl := h.len_le
  refine Fn.intro Try.func37 rfl rfl Try.ntmps37 rfl fun E F => ?_
  repeat (first | ((with_reducible refine Tr.step rfl ?_); (first | ((with_reducible refine Knd.move ?_); (refine Exec.stab rfl (Stab.move rfl) rfl ?_)) | ((with_reducible refine Knd.assign ?_); (refine Exec.stab rfl (Stab.assign rfl) rfl ?_)) | ((with_reducible refine Knd.len ?_); ((refine Exec.stab rfl (Stab.len rfl (tysOk.get rfl) rfl) rfl ?_))))) | (with_reducible refine Tr.next ?_) | (with_reducible refine Tr.seq ?_) | (with_reducible refine Tr.region ?_) | (with_reducible refine Tr.nil ?_) | (with_reducible refine Tr.block ?_))
  refine Tr.loop (α := Nat) (fun i => ⟨19, [(8, .int .i64 i), (7, .int .i64 l.length), (6, .slice A l.length c), (3, .int .i64 ((occs (l.take i) : Nat) : Int))], [], M, _⟩) (fun i => i ≤ l.length) (fun i => l.length - i) 0 (Nat.zero_le _) (holds_sub (by repeat (first | exact SubFr.nil | refine SubFr.cons rfl ?_)) (by repeat (first | exact DropL.refl | apply DropL.skip))) (fun i hi => ?_)
  by_cases hlt : i < l.length
  · obtain ⟨x, hx⟩ := get_of_lt hlt
    obtain ⟨hA, ch, hat, A1, k1, rfl, hxb⟩ := h.elem hx
    have hst := occs_take hx
    have hle := occs_le l (i + 1)
    have hx2 := occ_le x.length
    repeat (first | ((with_reducible refine Tr.step rfl ?_); (first | ((with_reducible refine Knd.move ?_); (refine Exec.stab rfl (Stab.move rfl) rfl ?_)) | ((with_reducible refine Knd.assign ?_); (refine Exec.stab rfl (Stab.assign rfl) rfl ?_)) | ((with_reducible refine Knd.load ?_); ((refine Exec.stab rfl (Stab.loadM rfl (tysOk.get rfl) rfl (by assumption)) rfl ?_))) | ((with_reducible refine Knd.len ?_); ((refine Exec.stab rfl (Stab.len rfl (tysOk.get rfl) rfl) rfl ?_))) | ((with_reducible refine Knd.binOp ?_); ((refine Exec.stab rfl (Stab.int rfl rfl rfl) rfl ?_))) | ((with_reducible refine Knd.indexAddr ?_); ((refine Exec.stab rfl (Stab.indexAddr rfl rfl (tysOk.get rfl) rfl (tysOk.get rfl) rfl (by omega) (by omega) (by first | rfl | assumption)) rfl ?_))))) | (with_reducible refine Tr.next ?_) | (with_reducible refine Tr.seq ?_) | (with_reducible refine Tr.region ?_) | (with_reducible refine Tr.nil ?_) | (with_reducible refine Tr.skip ?_) | (with_reducible refine Tr.block ?_) | (refine Tr.cond_t rfl (by first | (with_reducible assumption) | omega) ?_))
    ((refine Tr.step rfl ?_)); refine Exec.call0 rfl (occupies_fn M x.length (by omega)) rfl ?_
    rintro _ _ _ ⟨rfl, rfl⟩
    repeat (first | ((with_reducible refine Tr.step rfl ?_); (first | ((with_reducible refine Knd.move ?_); (refine Exec.stab rfl (Stab.move rfl) rfl ?_)) | ((with_reducible refine Knd.assign ?_); (refine Exec.stab rfl (Stab.assign rfl) rfl ?_)) | ((with_reducible refine Knd.binOp ?_); ((refine Exec.stab rfl (Stab.addi rfl rfl (by omega)) rfl ?_))))) | (with_reducible refine Tr.next ?_) | (with_reducible refine Tr.region ?_) | (with_reducible refine Tr.nil ?_) | (with_reducible refine Tr.in_normal ?_))
    have e : ((occs (l.take i) : Nat) : Int) + ((occ x.length : Nat) : Int) = ((occs (l.take (i + 1)) : Nat) : Int) := by omega
    rw [e]
    refine Tr.again (i + 1) (by omega) (by omega) (holds_sub (by repeat (first | exact SubFr.nil | refine SubFr.cons rfl ?_)) (by repeat (first | exact DropL.refl | apply DropL.skip)))
  · have e : i = l.length := by omega
    subst e
    rw [List.take_length]
    repeat (first | ((with_reducible refine Tr.step rfl ?_); (first | ((with_reducible refine Knd.move ?_); (refine Exec.stab rfl (Stab.move rfl) rfl ?_)) | ((with_reducible refine Knd.assign ?_); (refine Exec.stab rfl (Stab.assign rfl) rfl ?_)) | ((with_reducible refine Knd.binOp ?_); ((refine Exec.stab rfl (Stab.int rfl rfl rfl) rfl ?_))))) | (with_reducible refine Tr.next ?_) | (with_reducible refine Tr.seq ?_) | (with_reducible refine Tr.region ?_) | (with_reducible refine Tr.nil ?_) | (with_reducible refine Tr.exit ?_) | (with_reducible refine Tr.ret ?_) | (with_reducible refine Tr.then_exit ?_) | ((with_reducible refine Tr.in_exit ?_ ?_); (exact rfl)) | (refine Tr.cond_f rfl (by first | (with_reducible assumption) | omega) ?_))
    (refine Tr.done (by first | exact .inl rfl | exact .inr rfl) rfl (by repeat (first | exact RVs.nil | (apply RVs.cons; (exact RV.tmp rfl)))) (by first | exact Mem.le.refl _ | assumption) (by exact ⟨[], rfl⟩) ⟨rfl, ?_⟩)
    exact ⟨rfl, rfl⟩

set_option maxHeartbeats 1000000 in
theorem number_fn (M : Mem) (A : Option Addr) (n k : Nat) (bs : List UInt8) (h : BSl M (.slice A n k) bs) (hl : 4 ≤ bs.length) :
    Fn0 Try.prog 61 [.slice A n k] M (fun r M' => r = .int .i64 ((be (bs.take 4) : Nat) : Int) ∧ M = M') := by
  have hn := h.len
  subst hn
  have hcap := h.len_le
  obtain ⟨a, ha⟩ := get_of_lt (show 0 < bs.length by omega)
  obtain ⟨b, hb⟩ := get_of_lt (show 1 < bs.length by omega)
  obtain ⟨c, hc⟩ := get_of_lt (show 2 < bs.length by omega)
  obtain ⟨d, hd⟩ := get_of_lt (show 3 < bs.length by omega)
  obtain ⟨hA, at0⟩ := h.byte ha
  obtain ⟨-, at1⟩ := h.byte hb
  obtain ⟨-, at2⟩ := h.byte hc
  obtain ⟨-, at3⟩ := h.byte hd
  have l0 := a.toNat_lt
  have l1 := b.toNat_lt
  have l2 := c.toNat_lt
  have l3 := d.toNat_lt
  have ht : bs.take 4 = [a, b, c, d] := by
    apply List.ext_getElem?
    intro i
    rw [List.getElem?_take]
    match i with
    | 0 => simpa using ha
    | 1 => simpa using hb
    | 2 => simpa using hc
    | 3 => simpa using hd
    | i + 4 => simp; omega
  refine Fn.intro Try.func61 rfl rfl Try.ntmps61 rfl fun E F => ?_
  repeat (first | ((with_reducible refine Tr.step rfl ?_); (((with_reducible refine Knd.assign ?_); (refine Exec.stab rfl (Stab.assign rfl) rfl ?_)))) | (with_reducible refine Tr.next ?_) | (with_reducible refine Tr.seq ?_) | (with_reducible refine Tr.region ?_) | (with_reducible refine Tr.nil ?_))
  (((apply Tr.draw); (kernel_rfl)); (refine TrA.take 0 (by kernel_rfl) rfl (by kernel_rfl) (by exact fun _ _ _ h => h) (by exact fun _ h => h) rfl (by first | exact Stab.move rfl) rfl rfl ?_); (refine TrA.take 5 (by kernel_rfl) rfl (by kernel_rfl) (by exact fun _ _ _ h => h) (by exact fun _ h => h) rfl (by first | exact Stab.move rfl) rfl rfl ?_); (refine TrA.take 11 (by kernel_rfl) rfl (by kernel_rfl) (by exact fun _ _ _ h => h) (by exact fun _ h => h) rfl (by first | exact Stab.move rfl) rfl rfl ?_); (refine TrA.take 17 (by kernel_rfl) rfl (by kernel_rfl) (by exact fun _ _ _ h => h) (by exact fun _ h => h) rfl (by first | exact Stab.move rfl) rfl rfl ?_); (refine TrA.take 1 (by kernel_rfl) rfl (by kernel_rfl) (by exact fun _ _ _ h => h) (by exact fun _ h => h) rfl (by exact Stab.indexAddr rfl rfl (tysOk.get rfl) rfl (tysOk.get rfl) rfl (by omega) (by omega) (by first | rfl | assumption)) rfl rfl ?_); (refine TrA.take 6 (by kernel_rfl) rfl (by kernel_rfl) (by exact fun _ _ _ h => h) (by exact fun _ h => h) rfl (by exact Stab.indexAddr rfl rfl (tysOk.get rfl) rfl (tysOk.get rfl) rfl (by omega) (by omega) (by first | rfl | assumption)) rfl rfl ?_); (refine TrA.take 12 (by kernel_rfl) rfl (by kernel_rfl) (by exact fun _ _ _ h => h) (by exact fun _ h => h) rfl (by exact Stab.indexAddr rfl rfl (tysOk.get rfl) rfl (tysOk.get rfl) rfl (by omega) (by omega) (by first | rfl | assumption)) rfl rfl ?_); (refine TrA.take 18 (by kernel_rfl) rfl (by kernel_rfl) (by exact fun _ _ _ h => h) (by exact fun _ h => h) rfl (by exact Stab.indexAddr rfl rfl (tysOk.get rfl) rfl (tysOk.get rfl) rfl (by omega) (by omega) (by first | rfl | assumption)) rfl rfl ?_); (refine TrA.take 2 (by kernel_rfl) rfl (by kernel_rfl) (by exact fun _ _ _ h => h) (by exact fun _ h => h) rfl (by exact Stab.loadM rfl (tysOk.get rfl) rfl (by assumption)) rfl rfl ?_); (refine TrA.take 7 (by kernel_rfl) rfl (by kernel_rfl) (by exact fun _ _ _ h => h) (by exact fun _ h => h) rfl (by exact Stab.loadM rfl (tysOk.get rfl) rfl (by assumption)) rfl rfl ?_); (refine TrA.take 13 (by kernel_rfl) rfl (by kernel_rfl) (by exact fun _ _ _ h => h) (by exact fun _ h => h) rfl (by exact Stab.loadM rfl (tysOk.get rfl) rfl (by assumption)) rfl rfl ?_); (refine TrA.take 19 (by kernel_rfl) rfl (by kernel_rfl) (by exact fun _ _ _ h => h) (by exact fun _ h => h) rfl (by exact Stab.loadM rfl (tysOk.get rfl) rfl (by assumption)) rfl rfl ?_); (refine TrA.take 3 (by kernel_rfl) rfl (by kernel_rfl) (by exact fun _ _ _ h => h) (by exact fun _ h => h) rfl (by exact Stab.convi rfl (tysOk.get rfl) (tysOk.get rfl) rfl rfl (by omega)) rfl rfl ?_); (refine TrA.take 8 (by kernel_rfl) rfl (by kernel_rfl) (by exact fun _ _ _ h => h) (by exact fun _ h => h) rfl (by exact Stab.convi rfl (tysOk.get rfl) (tysOk.get rfl) rfl rfl (by omega)) rfl rfl ?_); (refine TrA.take 14 (by kernel_rfl) rfl (by kernel_rfl) (by exact fun _ _ _ h => h) (by exact fun _ h => h) rfl (by exact Stab.convi rfl (tysOk.get rfl) (tysOk.get rfl) rfl rfl (by omega)) rfl rfl ?_); (refine TrA.take 20 (by kernel_rfl) rfl (by kernel_rfl) (by exact fun _ _ _ h => h) (by exact fun _ h => h) rfl (by exact Stab.convi rfl (tysOk.get rfl) (tysOk.get rfl) rfl rfl (by omega)) rfl rfl ?_); (refine TrA.take 4 (by kernel_rfl) rfl (by kernel_rfl) (by exact fun _ _ _ h => h) (by exact fun _ h => h) rfl (by exact Stab.shlk 24 (p := 16777216) rfl rfl rfl rfl (by omega)) rfl rfl ?_); (refine TrA.take 9 (by kernel_rfl) rfl (by kernel_rfl) (by exact fun _ _ _ h => h) (by exact fun _ h => h) rfl (by exact Stab.shlk 16 (p := 65536) rfl rfl rfl rfl (by omega)) rfl rfl ?_); (refine TrA.take 15 (by kernel_rfl) rfl (by kernel_rfl) (by exact fun _ _ _ h => h) (by exact fun _ h => h) rfl (by exact Stab.shlk 8 (p := 256) rfl rfl rfl rfl (by omega)) rfl rfl ?_); (refine TrA.take 10 (by kernel_rfl) rfl (by kernel_rfl) (by exact fun _ _ _ h => h) (by exact fun _ h => h) rfl (by exact Stab.ork 24 (p := 16777216) rfl rfl rfl rfl (by omega) (by omega) (by omega)) rfl rfl ?_); (refine TrA.take 16 (by kernel_rfl) rfl (by kernel_rfl) (by exact fun _ _ _ h => h) (by exact fun _ h => h) rfl (by exact Stab.ork 16 (p := 65536) rfl rfl rfl rfl (by omega) (by omega) (by omega)) rfl rfl ?_); (refine TrA.take 21 (by kernel_rfl) rfl (by kernel_rfl) (by exact fun _ _ _ h => h) (by exact fun _ h => h) rfl (by exact Stab.ork 8 (p := 256) rfl rfl rfl rfl (by omega) (by omega) (by omega)) rfl rfl ?_); (refine TrA.take 22 (by kernel_rfl) rfl (by kernel_rfl) (by exact fun _ _ _ h => h) (by exact fun _ h => h) rfl (by first | exact Stab.assign rfl) rfl rfl ?_); (refine TrA.done (by kernel_rfl) ?_))
  repeat (first | (with_reducible refine Tr.next ?_) | (with_reducible refine Tr.ret ?_))
  (refine Tr.done (by first | exact .inl rfl | exact .inr rfl) rfl (by repeat (first | exact RVs.nil | (apply RVs.cons; (exact RV.tmp rfl)))) (by first | exact Mem.le.refl _ | assumption) (by exact ⟨[], rfl⟩) ⟨rfl, ?_⟩)
  refine ⟨?_, rfl⟩
  rw [ht, be_four]
  refine congrArg (Value.int .i64) ?_
  simp only [Int.natCast_add, Int.natCast_mul]; rfl

set_option maxHeartbeats 2000000 in
theorem checksum_fn (M : Mem) (A : Option Addr) (n k : Nat) (bs : List UInt8) (h : BSl M (.slice A n k) bs) :
    Fn0 Try.prog 65 [.slice A n k] M (fun r M' => r = .int .u32 ((crc bs).toNat : Int) ∧ M = M') := by
  have hn := h.len
  subst hn
  have hcap := h.len_le
  refine Fn.intro Try.func65 rfl rfl Try.ntmps65 rfl fun E F => ?_
  repeat (first | ((with_reducible refine Tr.step rfl ?_); (first | ((with_reducible refine Knd.move ?_); (refine Exec.stab rfl (Stab.move rfl) rfl ?_)) | ((with_reducible refine Knd.assign ?_); (refine Exec.stab rfl (Stab.assign rfl) rfl ?_)) | ((with_reducible refine Knd.len ?_); ((refine Exec.stab rfl (Stab.len rfl (tysOk.get rfl) rfl) rfl ?_))))) | (with_reducible refine Tr.next ?_) | (with_reducible refine Tr.seq ?_) | (with_reducible refine Tr.region ?_) | (with_reducible refine Tr.nil ?_) | (with_reducible refine Tr.block ?_))
  refine Tr.loop (α := Nat) (fun i => ⟨31, [(9, .int .i64 i), (8, .int .i64 bs.length), (7, .slice A bs.length k), (3, .int .u32 ((crcR (bs.take i)).toNat : Int))], [], M, _⟩) (fun i => i ≤ bs.length) (fun i => bs.length - i) 0 (Nat.zero_le _) (holds_sub (by repeat (first | exact SubFr.nil | refine SubFr.cons rfl ?_)) (by repeat (first | exact DropL.refl | apply DropL.skip))) (fun i hi => ?_)
  by_cases hlt : i < bs.length
  · obtain ⟨x, hx⟩ := get_of_lt hlt
    obtain ⟨hA, hat⟩ := h.byte hx
    have hst := crcR_take hx
    generalize crcR (bs.take i) = n at hst
    repeat (first | ((with_reducible refine Tr.step rfl ?_); (first | ((with_reducible refine Knd.move ?_); (refine Exec.stab rfl (Stab.move rfl) rfl ?_)) | ((with_reducible refine Knd.assign ?_); (refine Exec.stab rfl (Stab.assign rfl) rfl ?_)) | ((with_reducible refine Knd.load ?_); ((refine Exec.stab rfl (Stab.loadM rfl (tysOk.get rfl) rfl (by assumption)) rfl ?_))) | ((with_reducible refine Knd.binOp ?_); (first | (refine Exec.stab rfl (Stab.xorw rfl rfl) rfl ?_) | (refine Exec.stab rfl (Stab.int rfl rfl rfl) rfl ?_))) | ((with_reducible refine Knd.indexAddr ?_); ((refine Exec.stab rfl (Stab.indexAddr rfl rfl (tysOk.get rfl) rfl (tysOk.get rfl) rfl (by omega) (by omega) (by first | rfl | assumption)) rfl ?_))) | ((with_reducible refine Knd.convert ?_); ((refine Exec.stab rfl (Stab.byteW rfl (tysOk.get rfl) (tysOk.get rfl) rfl rfl) rfl ?_))))) | (with_reducible refine Tr.next ?_) | (with_reducible refine Tr.seq ?_) | (with_reducible refine Tr.region ?_) | (with_reducible refine Tr.nil ?_) | (with_reducible refine Tr.skip ?_) | (with_reducible refine Tr.block ?_) | (refine Tr.cond_t rfl (by first | (with_reducible assumption) | omega) ?_))
    refine Tr.loop (α := Nat) (fun k' => ⟨31, [(17, .int .i64 k'), (3, .int .u32 ((crcK k' (n ^^^ x.toUInt32)).toNat : Int)), (9, .int .i64 i), (8, .int .i64 bs.length), (7, .slice A bs.length k)], [], M, _⟩) (fun k' => k' ≤ 8) (fun k' => 8 - k') 0 (Nat.zero_le _) (holds_sub (by repeat (first | exact SubFr.nil | refine SubFr.cons rfl ?_)) (by repeat (first | exact DropL.refl | apply DropL.skip))) (fun k' hk' => ?_)
    by_cases hlt2 : k' < 8
    · generalize hv : crcK k' (n ^^^ x.toUInt32) = v
      have hv2 : crcK (k' + 1) (n ^^^ x.toUInt32) = crcS v := by rw [crcK, hv]
      by_cases ho : ((v &&& 1).toNat : Int) = 1
      · have := crcS_odd ho
        repeat (first | ((with_reducible refine Tr.step rfl ?_); (first | ((with_reducible refine Knd.move ?_); (refine Exec.stab rfl (Stab.move rfl) rfl ?_)) | ((with_reducible refine Knd.assign ?_); (refine Exec.stab rfl (Stab.assign rfl) rfl ?_)) | ((with_reducible refine Knd.binOp ?_); (first | (refine Exec.stab rfl (Stab.shrw 1 rfl rfl rfl (by decide)) rfl ?_) | (refine Exec.stab rfl (Stab.xorwk 3988292384 rfl rfl (by decide)) rfl ?_) | (refine Exec.stab rfl (Stab.andwk 1 rfl rfl (by decide)) rfl ?_) | (refine Exec.stab rfl (Stab.addi rfl rfl (by omega)) rfl ?_) | (refine Exec.stab rfl (Stab.int rfl rfl rfl) rfl ?_))))) | (with_reducible refine Tr.next ?_) | (with_reducible refine Tr.seq ?_) | (with_reducible refine Tr.region ?_) | (with_reducible refine Tr.nil ?_) | (with_reducible refine Tr.skip ?_) | (with_reducible refine Tr.block ?_) | (with_reducible refine Tr.in_normal ?_) | (refine Tr.cond_t rfl (by first | (with_reducible assumption) | omega) ?_))
        rw [show UInt32.ofNat 1 = 1 from rfl, this, ← hv2]
        refine Tr.again (k' + 1) (by omega) (by omega) (holds_sub (by repeat (first | exact SubFr.nil | refine SubFr.cons rfl ?_)) (by repeat (first | exact DropL.refl | apply DropL.skip)))
      · have := crcS_even ho
        repeat (first | ((with_reducible refine Tr.step rfl ?_); (first | ((with_reducible refine Knd.move ?_); (refine Exec.stab rfl (Stab.move rfl) rfl ?_)) | ((with_reducible refine Knd.assign ?_); (refine Exec.stab rfl (Stab.assign rfl) rfl ?_)) | ((with_reducible refine Knd.binOp ?_); (first | (refine Exec.stab rfl (Stab.shrw 1 rfl rfl rfl (by decide)) rfl ?_) | (refine Exec.stab rfl (Stab.andwk 1 rfl rfl (by decide)) rfl ?_) | (refine Exec.stab rfl (Stab.addi rfl rfl (by omega)) rfl ?_) | (refine Exec.stab rfl (Stab.int rfl rfl rfl) rfl ?_))))) | (with_reducible refine Tr.next ?_) | (with_reducible refine Tr.seq ?_) | (with_reducible refine Tr.region ?_) | (with_reducible refine Tr.nil ?_) | (with_reducible refine Tr.skip ?_) | (with_reducible refine Tr.block ?_) | (with_reducible refine Tr.in_normal ?_) | (refine Tr.cond_t rfl (by first | (with_reducible assumption) | omega) ?_) | (refine Tr.cond_f rfl (by (with_reducible assumption)) ?_))
        rw [show UInt32.ofNat 1 = 1 from rfl, this, ← hv2]
        refine Tr.again (k' + 1) (by omega) (by omega) (holds_sub (by repeat (first | exact SubFr.nil | refine SubFr.cons rfl ?_)) (by repeat (first | exact DropL.refl | apply DropL.skip)))
    · have e : k' = 8 := by omega
      subst e
      have e2 : crcK 8 (n ^^^ x.toUInt32) = crcR (bs.take (i + 1)) := by rw [hst]; rfl
      rw [e2]
      repeat (first | ((with_reducible refine Tr.step rfl ?_); (first | ((with_reducible refine Knd.move ?_); (refine Exec.stab rfl (Stab.move rfl) rfl ?_)) | ((with_reducible refine Knd.binOp ?_); (first | (refine Exec.stab rfl (Stab.addi rfl rfl (by omega)) rfl ?_) | (refine Exec.stab rfl (Stab.int rfl rfl rfl) rfl ?_))))) | (with_reducible refine Tr.next ?_) | (with_reducible refine Tr.seq ?_) | (with_reducible refine Tr.region ?_) | (with_reducible refine Tr.nil ?_) | (with_reducible refine Tr.exit ?_) | (with_reducible refine Tr.then_exit ?_) | (with_reducible refine Tr.in_normal ?_) | ((with_reducible refine Tr.in_exit ?_ ?_); (exact rfl)) | (refine Tr.cond_f rfl (by first | (with_reducible assumption) | omega) ?_))
      refine Tr.again (i + 1) (by omega) (by omega) (holds_sub (by repeat (first | exact SubFr.nil | refine SubFr.cons rfl ?_)) (by repeat (first | exact DropL.refl | apply DropL.skip)))
  · have e : i = bs.length := by omega
    subst e
    rw [List.take_length]
    repeat (first | ((with_reducible refine Tr.step rfl ?_); (first | ((with_reducible refine Knd.move ?_); (refine Exec.stab rfl (Stab.move rfl) rfl ?_)) | ((with_reducible refine Knd.assign ?_); (refine Exec.stab rfl (Stab.assign rfl) rfl ?_)) | ((with_reducible refine Knd.binOp ?_); ((refine Exec.stab rfl (Stab.int rfl rfl rfl) rfl ?_))) | ((with_reducible refine Knd.unOp ?_); ((refine Exec.stab rfl (Stab.notw rfl) rfl ?_))))) | (with_reducible refine Tr.next ?_) | (with_reducible refine Tr.seq ?_) | (with_reducible refine Tr.region ?_) | (with_reducible refine Tr.nil ?_) | (with_reducible refine Tr.exit ?_) | (with_reducible refine Tr.ret ?_) | (with_reducible refine Tr.then_exit ?_) | ((with_reducible refine Tr.in_exit ?_ ?_); (exact rfl)) | (refine Tr.cond_f rfl (by first | (with_reducible assumption) | omega) ?_))
    (refine Tr.done (by first | exact .inl rfl | exact .inr rfl) rfl (by repeat (first | exact RVs.nil | (apply RVs.cons; (exact RV.tmp rfl)))) (by first | exact Mem.le.refl _ | assumption) (by exact ⟨[], rfl⟩) ⟨rfl, ?_⟩)
    exact ⟨rfl, rfl⟩
end Go.Proofs.Ytkbggengagockaa
/-
  The journal: which sectors are good.
  Conditions: none.
-/
namespace Go.Proofs.Ytkbggengagockaa
open Go Bf
attribute [local irreducible] Tr Exec Stab HasTy Go.Addr.add IntKind.wrap
def gen (s : List UInt8) : Nat := be (s.take 4)
def num (s : List UInt8) : Nat := (s.getD 8 0).toNat * 256 + (s.getD 9 0).toNat
def kind (s : List UInt8) : UInt8 := s.getD 10 0
def many (s : List UInt8) : Nat := (s.getD 11 0).toNat
/-- the bytes that the checksum is of -/
def body (s : List UInt8) : List UInt8 := (s.drop 8).take 116
/-- what lies behind the bytes of the record -/
def rest (s : List UInt8) : List UInt8 := (s.drop (12 + many s)).take (124 - (12 + many s))
def goodS (s : List UInt8) (k : Nat) : Prop :=
  gen s ≠ 0 ∧ gen s = be (s.drop 124) ∧ num s = k ∧ (kind s).toNat ≤ 3 ∧ many s ≤ 112 ∧ (crc (body s)).toNat = be ((s.drop 4).take 4) ∧ (∀ x ∈ rest s, x = 0) ∧ ¬ ((kind s).toNat < 2 ∧ many s ≠ 112) ∧ ¬ ((kind s).toNat % 2 = 0 ∧ many s = 0)
instance (s : List UInt8) (k : Nat) : Decidable (goodS s k) := by unfold goodS; infer_instance
def hdrV (s : List UInt8) : Value := .agg #[.int .i64 ((gen s : Nat) : Int), .int .i64 ((num s : Nat) : Int), .int .u8 ((kind s).toNat : Int), .int .i64 ((many s : Nat) : Int)]
def hdrZ : Value := .agg #[.int .i64 0, .int .i64 0, .int .u8 0, .int .i64 0]
/-- what good returns -/
def goodR (s : List UInt8) (k : Nat) : Value := if goodS s k then .tuple #[hdrV s, .bool true] else .tuple #[hdrZ, .bool false]
theorem u8_and2 {x : UInt8} (h : x.toNat ≤ 3) : ((x &&& 2).toNat = 0 ↔ x.toNat < 2) := by
  rw [UInt8.toNat_and, show (2 : UInt8).toNat = 2 from rfl]
  have : ∀ n : Nat, n ≤ 3 → (n &&& 2 = 0 ↔ n < 2) := by decide
  exact this _ h
theorem u8_and1 {x : UInt8} (h : x.toNat ≤ 3) : ((x &&& 1).toNat = 0 ↔ x.toNat % 2 = 0) := by
  rw [UInt8.toNat_and, show (1 : UInt8).toNat = 1 from rfl]
  have : ∀ n : Nat, n ≤ 3 → (n &&& 1 = 0 ↔ n % 2 = 0) := by decide
  exact this _ h
theorem getD_of {bs : List UInt8} {i : Nat} {x : UInt8} (h : bs[i]? = some x) : bs.getD i 0 = x := by
  rw [List.getD_eq_getElem?_getD, h]; rfl

set_option maxHeartbeats 4000000 in
theorem good_fn (M : Mem) (A : Option Addr) (c : Nat) (bs : List UInt8) (k : Nat) (h : BSl M (.slice A 128 c) bs) :
    Fn0 Try.prog 58 [.slice A 128 c, .int .i64 (k : Int)] M (fun r M' => r = goodR bs k ∧ M = M') := by
  have hl := h.len.symm
  have hcap := h.cap.1
  obtain ⟨xa, ha⟩ := get_of_lt (show 8 < bs.length by omega)
  obtain ⟨xb, hb⟩ := get_of_lt (show 9 < bs.length by omega)
  obtain ⟨xf, hf⟩ := get_of_lt (show 10 < bs.length by omega)
  obtain ⟨xm, hm⟩ := get_of_lt (show 11 < bs.length by omega)
  obtain ⟨hA, at0⟩ := h.byte ha
  obtain ⟨-, at1⟩ := h.byte hb
  obtain ⟨-, at2⟩ := h.byte hf
  obtain ⟨-, at3⟩ := h.byte hm
  have l0 := xa.toNat_lt
  have l1 := xb.toNat_lt
  have l2 := xf.toNat_lt
  have l3 := xm.toNat_lt
  have eK : kind bs = xf := getD_of hf
  have eM : many bs = xm.toNat := by rw [many, getD_of hm]
  have eN : num bs = xa.toNat * 256 + xb.toNat := by rw [num, getD_of ha, getD_of hb]
  have ht : BSl M _ ((bs.drop 124).take (128 - 124)) := h.sub (l := 124) (k := 128) (m := c) (by omega) (by omega) (by omega) (by omega)
  have ht4 : (bs.drop 124).take (128 - 124) = bs.drop 124 := List.take_of_length_le (by simp; omega)
  rw [ht4] at ht
  have hb8 : BSl M _ (body bs) := h.sub (l := 8) (k := 124) (m := c) (by omega) (by omega) (by omega) (by omega)
  have h4 : BSl M _ ((bs.drop 4).take (128 - 4)) := h.sub (l := 4) (k := 128) (m := c) (by omega) (by omega) (by omega) (by omega)
  refine Fn.intro Try.func58 rfl rfl Try.ntmps58 rfl fun E F => ?_
  repeat (first | ((with_reducible refine Tr.step rfl ?_); (first | ((with_reducible refine Knd.assign ?_); (refine Exec.stab rfl (Stab.assign rfl) rfl ?_)) | ((with_reducible refine Knd.alloc ?_); ((refine Exec.alloc (tysOk.get rfl) rfl rfl (fun b => ?_)))))) | (with_reducible refine Tr.next ?_) | (with_reducible refine Tr.seq ?_) | (with_reducible refine Tr.region ?_) | (with_reducible refine Tr.nil ?_))
  (((apply Tr.draw); (kernel_rfl)); (refine TrA.take 0 (by kernel_rfl) rfl (by kernel_rfl) (by exact fun _ _ _ h => h) (by exact fun _ h => h) rfl (by first | exact Stab.move rfl) rfl rfl ?_); (refine TrA.take 2 (by kernel_rfl) rfl (by kernel_rfl) (by exact fun _ _ _ h => h) (by exact fun _ h => h) rfl (by first | exact Stab.move rfl) rfl rfl ?_); (refine TrA.take 7 (by kernel_rfl) rfl (by kernel_rfl) (by exact fun _ _ _ h => h) (by exact fun _ h => h) rfl (by first | exact Stab.move rfl) rfl rfl ?_); (refine TrA.take 12 (by kernel_rfl) rfl (by kernel_rfl) (by exact fun _ _ _ h => h) (by exact fun _ h => h) rfl (by first | exact Stab.move rfl) rfl rfl ?_); (refine TrA.take 15 (by kernel_rfl) rfl (by kernel_rfl) (by exact fun _ _ _ h => h) (by exact fun _ h => h) rfl (by first | exact Stab.move rfl) rfl rfl ?_); (refine TrA.take 3 (by kernel_rfl) rfl (by kernel_rfl) (by exact fun _ _ _ h => h) (by exact fun _ h => h) rfl (by exact Stab.indexAddr rfl rfl (tysOk.get rfl) rfl (tysOk.get rfl) rfl (by omega) (by omega) (by first | rfl | assumption)) rfl rfl ?_); (refine TrA.take 8 (by kernel_rfl) rfl (by kernel_rfl) (by exact fun _ _ _ h => h) (by exact fun _ h => h) rfl (by exact Stab.indexAddr rfl rfl (tysOk.get rfl) rfl (tysOk.get rfl) rfl (by omega) (by omega) (by first | rfl | assumption)) rfl rfl ?_); (refine TrA.take 13 (by kernel_rfl) rfl (by kernel_rfl) (by exact fun _ _ _ h => h) (by exact fun _ h => h) rfl (by exact Stab.indexAddr rfl rfl (tysOk.get rfl) rfl (tysOk.get rfl) rfl (by omega) (by omega) (by first | rfl | assumption)) rfl rfl ?_); (refine TrA.take 16 (by kernel_rfl) rfl (by kernel_rfl) (by exact fun _ _ _ h => h) (by exact fun _ h => h) rfl (by exact Stab.indexAddr rfl rfl (tysOk.get rfl) rfl (tysOk.get rfl) rfl (by omega) (by omega) (by first | rfl | assumption)) rfl rfl ?_); (refine TrA.take 4 (by kernel_rfl) rfl (by kernel_rfl) (by exact fun _ _ _ h => h) (by exact fun _ h => h) rfl (by exact Stab.loadM rfl (tysOk.get rfl) rfl (by assumption)) rfl rfl ?_); (refine TrA.take 9 (by kernel_rfl) rfl (by kernel_rfl) (by exact fun _ _ _ h => h) (by exact fun _ h => h) rfl (by exact Stab.loadM rfl (tysOk.get rfl) rfl (by assumption)) rfl rfl ?_); (refine TrA.take 14 (by kernel_rfl) rfl (by kernel_rfl) (by exact fun _ _ _ h => h) (by exact fun _ h => h) rfl (by exact Stab.loadM rfl (tysOk.get rfl) rfl (by assumption)) rfl rfl ?_); (refine TrA.take 17 (by kernel_rfl) rfl (by kernel_rfl) (by exact fun _ _ _ h => h) (by exact fun _ h => h) rfl (by exact Stab.loadM rfl (tysOk.get rfl) rfl (by assumption)) rfl rfl ?_); (refine TrA.take 5 (by kernel_rfl) rfl (by kernel_rfl) (by exact fun _ _ _ h => h) (by exact fun _ h => h) rfl (by exact Stab.convi rfl (tysOk.get rfl) (tysOk.get rfl) rfl rfl (by omega)) rfl rfl ?_); (refine TrA.take 10 (by kernel_rfl) rfl (by kernel_rfl) (by exact fun _ _ _ h => h) (by exact fun _ h => h) rfl (by exact Stab.convi rfl (tysOk.get rfl) (tysOk.get rfl) rfl rfl (by omega)) rfl rfl ?_); (refine TrA.take 18 (by kernel_rfl) rfl (by kernel_rfl) (by exact fun _ _ _ h => h) (by exact fun _ h => h) rfl (by exact Stab.convi rfl (tysOk.get rfl) (tysOk.get rfl) rfl rfl (by omega)) rfl rfl ?_); (refine TrA.take 6 (by kernel_rfl) rfl (by kernel_rfl) (by exact fun _ _ _ h => h) (by exact fun _ h => h) rfl (by exact Stab.shlk 8 (p := 256) rfl rfl rfl rfl (by omega)) rfl rfl ?_); (refine TrA.take 11 (by kernel_rfl) rfl (by kernel_rfl) (by exact fun _ _ _ h => h) (by exact fun _ h => h) rfl (by exact Stab.ork 8 (p := 256) rfl rfl rfl rfl (by omega) (by omega) (by omega)) rfl rfl ?_); (refine TrA.eff 1 rfl (by kernel_rfl) (by exact .inl rfl) ?_))
  refine Exec.call0 rfl (number_fn M _ _ _ bs h (by omega)) rfl ?_
  rintro _ _ _ ⟨rfl, rfl⟩
  refine ⟨Mem.le.refl _, (by exact fun _ h => h), ?_⟩
  ((refine TrA.take 19 (by kernel_rfl) rfl (by kernel_rfl) (by exact fun _ _ _ h => h) (by exact fun _ h => h) rfl (by exact Stab.build tysOk rfl rfl rfl rfl (by repeat (first | exact BuildP.nil | ((apply BuildP.one); (rfl); (rfl); (first | rfl | assumption); (repeat (first | exact SetL.z | apply SetL.s)))))) rfl rfl ?_); (refine TrA.effD 20 rfl (by kernel_rfl) (by kernel_rfl) (by exact .inl rfl) ?_); (((refine Knd.store ?_); ((refine Exec.storeW rfl rfl (tysOk.get rfl) (by repeat (first | exact Upd.here | apply Upd.there)) rfl rfl (by repeat (first | exact AllOne.nil | refine AllOne.cons (by first | rfl | assumption) ?_)) ?_)))); (refine ⟨_, fun _ h => h, ?_⟩); (refine TrA.done (by kernel_rfl) ?_))
  rw [show (xa.toNat : Int) * 256 + (xb.toNat : Int) = ((num bs : Nat) : Int) by rw [eN]; simp]
  rw [show be (bs.take 4) = gen bs from rfl]
  have hno : ∀ p, ¬ goodS bs p → goodR bs p = .tuple #[hdrZ, .bool false] := fun p hp => if_neg hp
  repeat (first | (with_reducible refine Tr.next ?_) | (with_reducible refine Tr.seq ?_))
  (((apply Tr.draw); (kernel_rfl)); (refine TrA.take 0 (by kernel_rfl) rfl (by kernel_rfl) (by exact fun _ _ _ h => h) (by exact fun _ h => h) rfl (by exact Stab.fieldZ rfl (tysOk.get rfl) rfl rfl (tysOk.get rfl) rfl) rfl rfl ?_); (refine TrA.take 1 (by kernel_rfl) rfl (by kernel_rfl) (by exact fun _ _ _ h => h) (by exact fun _ h => h) rfl (by exact Stab.load rfl (tysOk.get rfl) rfl (by repeat (first | exact Has.here | apply Has.there)) rfl) rfl rfl ?_); (refine TrA.take 2 (by kernel_rfl) rfl (by kernel_rfl) (by exact fun _ _ _ h => h) (by exact fun _ h => h) rfl (by exact Stab.int rfl rfl rfl) rfl rfl ?_))
  by_cases c1 : ((gen bs : Nat) : Int) = 0
  · rw [decide_eq_true c1]
    ((refine TrA.take 3 (by kernel_rfl) rfl (by kernel_rfl) (by exact fun _ _ _ h => h) (by exact fun _ h => h) rfl (by first | exact Stab.move rfl) rfl rfl ?_); ((refine TrA.takeu 4 (by kernel_rfl) rfl (by kernel_rfl) (by exact fun _ _ _ h => h) (by exact fun _ h => h) rfl rfl rfl (by first | rfl | (simp; done) | (simp; omega)) rfl rfl ?_)); ((refine TrA.takeu 6 (by kernel_rfl) rfl (by kernel_rfl) (by exact fun _ _ _ h => h) (by exact fun _ h => h) rfl rfl rfl (by first | rfl | (simp; done) | (simp; omega)) rfl rfl ?_)); ((refine TrA.takeu 5 (by kernel_rfl) rfl (by kernel_rfl) (by exact fun _ _ _ h => h) (by exact fun _ h => h) rfl rfl rfl (by first | rfl | (simp; done) | (simp; omega)) rfl rfl ?_)); ((refine TrA.takeu 7 (by kernel_rfl) rfl (by kernel_rfl) (by exact fun _ _ _ h => h) (by exact fun _ h => h) rfl rfl rfl (by first | rfl | (simp; done) | (simp; omega)) rfl rfl ?_)); ((refine TrA.takeu 8 (by kernel_rfl) rfl (by kernel_rfl) (by exact fun _ _ _ h => h) (by exact fun _ h => h) rfl rfl rfl (by first | rfl | (simp; done) | (simp; omega)) rfl rfl ?_)); ((refine TrA.takeu 9 (by kernel_rfl) rfl (by kernel_rfl) (by exact fun _ _ _ h => h) (by exact fun _ h => h) rfl rfl rfl (by first | rfl | (simp; done) | (simp; omega)) rfl rfl ?_)); (refine TrA.take 10 (by kernel_rfl) rfl (by kernel_rfl) (by exact fun _ _ _ h => h) (by exact fun _ h => h) rfl (by exact Stab.pick_t rfl (by (with_reducible rfl)) rfl) rfl rfl ?_); (refine TrA.take 11 (by kernel_rfl) rfl (by kernel_rfl) (by exact fun _ _ _ h => h) (by exact fun _ h => h) rfl (by first | exact Stab.move rfl) rfl rfl ?_); ((refine TrA.takeu 12 (by kernel_rfl) rfl (by kernel_rfl) (by exact fun _ _ _ h => h) (by exact fun _ h => h) rfl rfl rfl (by first | rfl | (simp; done) | (simp; omega)) rfl rfl ?_)); ((refine TrA.takeu 14 (by kernel_rfl) rfl (by kernel_rfl) (by exact fun _ _ _ h => h) (by exact fun _ h => h) rfl rfl rfl (by first | rfl | (simp; done) | (simp; omega)) rfl rfl ?_)); ((refine TrA.takeu 13 (by kernel_rfl) rfl (by kernel_rfl) (by exact fun _ _ _ h => h) (by exact fun _ h => h) rfl rfl rfl (by first | rfl | (simp; done) | (simp; omega)) rfl rfl ?_)); ((refine TrA.takeu 15 (by kernel_rfl) rfl (by kernel_rfl) (by exact fun _ _ _ h => h) (by exact fun _ h => h) rfl rfl rfl (by first | rfl | (simp; done) | (simp; omega)) rfl rfl ?_)); (refine TrA.take 16 (by kernel_rfl) rfl (by kernel_rfl) (by exact fun _ _ _ h => h) (by exact fun _ h => h) rfl (by exact Stab.pick_t rfl (by (with_reducible rfl)) rfl) rfl rfl ?_); (refine TrA.take 17 (by kernel_rfl) rfl (by kernel_rfl) (by exact fun _ _ _ h => h) (by exact fun _ h => h) rfl (by first | exact Stab.move rfl) rfl rfl ?_); ((refine TrA.takeu 18 (by kernel_rfl) rfl (by kernel_rfl) (by exact fun _ _ _ h => h) (by exact fun _ h => h) rfl rfl rfl (by first | rfl | (simp; done) | (simp; omega)) rfl rfl ?_)); ((refine TrA.takeu 19 (by kernel_rfl) rfl (by kernel_rfl) (by exact fun _ _ _ h => h) (by exact fun _ h => h) rfl rfl rfl (by first | rfl | (simp; done) | (simp; omega)) rfl rfl ?_)); ((refine TrA.takeu 20 (by kernel_rfl) rfl (by kernel_rfl) (by exact fun _ _ _ h => h) (by exact fun _ h => h) rfl rfl rfl (by first | rfl | (simp; done) | (simp; omega)) rfl rfl ?_)); (refine TrA.take 21 (by kernel_rfl) rfl (by kernel_rfl) (by exact fun _ _ _ h => h) (by exact fun _ h => h) rfl (by exact Stab.pick_t rfl (by (with_reducible rfl)) rfl) rfl rfl ?_); (refine TrA.take 22 (by kernel_rfl) rfl (by kernel_rfl) (by exact fun _ _ _ h => h) (by exact fun _ h => h) rfl (by first | exact Stab.move rfl) rfl rfl ?_); ((refine TrA.takeu 23 (by kernel_rfl) rfl (by kernel_rfl) (by exact fun _ _ _ h => h) (by exact fun _ h => h) rfl rfl rfl (by first | rfl | (simp; done) | (simp; omega)) rfl rfl ?_)); ((refine TrA.takeu 24 (by kernel_rfl) rfl (by kernel_rfl) (by exact fun _ _ _ h => h) (by exact fun _ h => h) rfl rfl rfl (by first | rfl | (simp; done) | (simp; omega)) rfl rfl ?_)); ((refine TrA.takeu 25 (by kernel_rfl) rfl (by kernel_rfl) (by exact fun _ _ _ h => h) (by exact fun _ h => h) rfl rfl rfl (by first | rfl | (simp; done) | (simp; omega)) rfl rfl ?_)); (refine TrA.take 26 (by kernel_rfl) rfl (by kernel_rfl) (by exact fun _ _ _ h => h) (by exact fun _ h => h) rfl (by exact Stab.pick_t rfl (by (with_reducible rfl)) rfl) rfl rfl ?_); (refine TrA.done (by kernel_rfl) ?_))
    repeat (first | ((with_reducible refine Tr.step rfl ?_); (first | ((with_reducible refine Knd.assign ?_); (refine Exec.stab rfl (Stab.assign rfl) rfl ?_)) | ((with_reducible refine Knd.store ?_); ((refine Exec.storeW rfl rfl (tysOk.get rfl) (by repeat (first | exact Upd.here | apply Upd.there)) rfl rfl (by repeat (first | exact AllOne.nil | refine AllOne.cons (by first | rfl | assumption) ?_)) ?_))) | ((with_reducible refine Knd.build ?_); ((refine Exec.stab rfl (Stab.build tysOk rfl rfl rfl rfl (by repeat (exact BuildP.nil))) rfl ?_))))) | (with_reducible refine Tr.next ?_) | (with_reducible refine Tr.seq ?_) | (with_reducible refine Tr.region ?_) | (with_reducible refine Tr.nil ?_) | (with_reducible refine Tr.ret ?_) | (with_reducible refine Tr.then_ret ?_) | (refine Tr.cond_bt rfl (by (with_reducible rfl)) ?_))
    (refine Tr.done (by first | exact .inl rfl | exact .inr rfl) rfl (by repeat (first | exact RVs.nil | (apply RVs.cons; (first | exact RV.tmp rfl | exact RV.cellW (by rfl) (tysOk.get (by rfl)) (by rfl) (by repeat (first | exact Has.here | apply Has.there)) (by first | rfl | assumption))))) (by first | exact Mem.le.refl _ | assumption) (by exact ⟨[_], rfl⟩) ⟨rfl, ?_⟩)
    exact ⟨(hno k fun hg => hg.1 (by omega)).symm, rfl⟩
  rw [decide_eq_false c1]
  ((refine TrA.take 3 (by kernel_rfl) rfl (by kernel_rfl) (by exact fun _ _ _ h => h) (by exact fun _ h => h) rfl (by first | exact Stab.move rfl) rfl rfl ?_); ((refine TrA.takeg 4 (by kernel_rfl) rfl (by kernel_rfl) (by exact fun _ _ _ h => h) (by exact fun _ h => h) rfl rfl rfl (by (with_reducible rfl)) (by exact Stab.fieldZ rfl (tysOk.get rfl) rfl rfl (tysOk.get rfl) rfl) rfl rfl ?_)); ((refine TrA.takeg 6 (by kernel_rfl) rfl (by kernel_rfl) (by exact fun _ _ _ h => h) (by exact fun _ h => h) rfl rfl rfl (by (with_reducible rfl)) (by first | exact Stab.move rfl) rfl rfl ?_)); ((refine TrA.takeg 5 (by kernel_rfl) rfl (by kernel_rfl) (by exact fun _ _ _ h => h) (by exact fun _ h => h) rfl rfl rfl (by (with_reducible rfl)) (by exact Stab.load rfl (tysOk.get rfl) rfl (by repeat (first | exact Has.here | apply Has.there)) rfl) rfl rfl ?_)); ((refine TrA.takeg 7 (by kernel_rfl) rfl (by kernel_rfl) (by exact fun _ _ _ h => h) (by exact fun _ h => h) rfl rfl rfl (by (with_reducible rfl)) (by exact Stab.slice_l rfl rfl (tysOk.get rfl) rfl (tysOk.get rfl) rfl (by omega) (by omega)) rfl rfl ?_)); (refine TrA.eff 8 rfl (by kernel_rfl) (by exact .inr ⟨_, _, _, rfl, rfl, rfl⟩) ?_))
  refine Exec.call0 rfl (number_fn M _ _ _ _ ht (by simp; omega)) rfl ?_
  rintro _ _ _ ⟨rfl, rfl⟩
  refine ⟨Mem.le.refl _, (by exact fun _ h => h), ?_⟩
  rw [show (bs.drop 124).take 4 = bs.drop 124 from List.take_of_length_le (by simp; omega)]
  (((refine TrA.takeg 9 (by kernel_rfl) rfl (by kernel_rfl) (by exact fun _ _ _ h => h) (by exact fun _ h => h) rfl rfl rfl (by (with_reducible rfl)) (by exact Stab.int rfl rfl rfl) rfl rfl ?_)); (refine TrA.take 10 (by kernel_rfl) rfl (by kernel_rfl) (by exact fun _ _ _ h => h) (by exact fun _ h => h) rfl (by exact Stab.pick_f rfl (by (with_reducible rfl)) rfl) rfl rfl ?_))
  by_cases c2 : ((gen bs : Nat) : Int) ≠ ((be (bs.drop 124) : Nat) : Int)
  · rw [decide_eq_true c2]
    ((refine TrA.take 11 (by kernel_rfl) rfl (by kernel_rfl) (by exact fun _ _ _ h => h) (by exact fun _ h => h) rfl (by first | exact Stab.move rfl) rfl rfl ?_); ((refine TrA.takeu 12 (by kernel_rfl) rfl (by kernel_rfl) (by exact fun _ _ _ h => h) (by exact fun _ h => h) rfl rfl rfl (by first | rfl | (simp; done) | (simp; omega)) rfl rfl ?_)); ((refine TrA.takeu 14 (by kernel_rfl) rfl (by kernel_rfl) (by exact fun _ _ _ h => h) (by exact fun _ h => h) rfl rfl rfl (by first | rfl | (simp; done) | (simp; omega)) rfl rfl ?_)); ((refine TrA.takeu 13 (by kernel_rfl) rfl (by kernel_rfl) (by exact fun _ _ _ h => h) (by exact fun _ h => h) rfl rfl rfl (by first | rfl | (simp; done) | (simp; omega)) rfl rfl ?_)); ((refine TrA.takeu 15 (by kernel_rfl) rfl (by kernel_rfl) (by exact fun _ _ _ h => h) (by exact fun _ h => h) rfl rfl rfl (by first | rfl | (simp; done) | (simp; omega)) rfl rfl ?_)); (refine TrA.take 16 (by kernel_rfl) rfl (by kernel_rfl) (by exact fun _ _ _ h => h) (by exact fun _ h => h) rfl (by exact Stab.pick_t rfl (by (with_reducible rfl)) rfl) rfl rfl ?_); (refine TrA.take 17 (by kernel_rfl) rfl (by kernel_rfl) (by exact fun _ _ _ h => h) (by exact fun _ h => h) rfl (by first | exact Stab.move rfl) rfl rfl ?_); ((refine TrA.takeu 18 (by kernel_rfl) rfl (by kernel_rfl) (by exact fun _ _ _ h => h) (by exact fun _ h => h) rfl rfl rfl (by first | rfl | (simp; done) | (simp; omega)) rfl rfl ?_)); ((refine TrA.takeu 19 (by kernel_rfl) rfl (by kernel_rfl) (by exact fun _ _ _ h => h) (by exact fun _ h => h) rfl rfl rfl (by first | rfl | (simp; done) | (simp; omega)) rfl rfl ?_)); ((refine TrA.takeu 20 (by kernel_rfl) rfl (by kernel_rfl) (by exact fun _ _ _ h => h) (by exact fun _ h => h) rfl rfl rfl (by first | rfl | (simp; done) | (simp; omega)) rfl rfl ?_)); (refine TrA.take 21 (by kernel_rfl) rfl (by kernel_rfl) (by exact fun _ _ _ h => h) (by exact fun _ h => h) rfl (by exact Stab.pick_t rfl (by (with_reducible rfl)) rfl) rfl rfl ?_); (refine TrA.take 22 (by kernel_rfl) rfl (by kernel_rfl) (by exact fun _ _ _ h => h) (by exact fun _ h => h) rfl (by first | exact Stab.move rfl) rfl rfl ?_); ((refine TrA.takeu 23 (by kernel_rfl) rfl (by kernel_rfl) (by exact fun _ _ _ h => h) (by exact fun _ h => h) rfl rfl rfl (by first | rfl | (simp; done) | (simp; omega)) rfl rfl ?_)); ((refine TrA.takeu 24 (by kernel_rfl) rfl (by kernel_rfl) (by exact fun _ _ _ h => h) (by exact fun _ h => h) rfl rfl rfl (by first | rfl | (simp; done) | (simp; omega)) rfl rfl ?_)); ((refine TrA.takeu 25 (by kernel_rfl) rfl (by kernel_rfl) (by exact fun _ _ _ h => h) (by exact fun _ h => h) rfl rfl rfl (by first | rfl | (simp; done) | (simp; omega)) rfl rfl ?_)); (refine TrA.take 26 (by kernel_rfl) rfl (by kernel_rfl) (by exact fun _ _ _ h => h) (by exact fun _ h => h) rfl (by exact Stab.pick_t rfl (by (with_reducible rfl)) rfl) rfl rfl ?_); (refine TrA.done (by kernel_rfl) ?_))
    repeat (first | ((with_reducible refine Tr.step rfl ?_); (first | ((with_reducible refine Knd.assign ?_); (refine Exec.stab rfl (Stab.assign rfl) rfl ?_)) | ((with_reducible refine Knd.store ?_); ((refine Exec.storeW rfl rfl (tysOk.get rfl) (by repeat (first | exact Upd.here | apply Upd.there)) rfl rfl (by repeat (first | exact AllOne.nil | refine AllOne.cons (by first | rfl | assumption) ?_)) ?_))) | ((with_reducible refine Knd.build ?_); ((refine Exec.stab rfl (Stab.build tysOk rfl rfl rfl rfl (by repeat (exact BuildP.nil))) rfl ?_))))) | (with_reducible refine Tr.next ?_) | (with_reducible refine Tr.seq ?_) | (with_reducible refine Tr.region ?_) | (with_reducible refine Tr.nil ?_) | (with_reducible refine Tr.ret ?_) | (with_reducible refine Tr.then_ret ?_) | (refine Tr.cond_bt rfl (by (with_reducible rfl)) ?_))
    (refine Tr.done (by first | exact .inl rfl | exact .inr rfl) rfl (by repeat (first | exact RVs.nil | (apply RVs.cons; (first | exact RV.tmp rfl | exact RV.cellW (by rfl) (tysOk.get (by rfl)) (by rfl) (by repeat (first | exact Has.here | apply Has.there)) (by first | rfl | assumption))))) (by first | exact Mem.le.refl _ | assumption) (by exact ⟨[_], rfl⟩) ⟨rfl, ?_⟩)
    exact ⟨(hno k fun hg => c2 (by have := hg.2.1; omega)).symm, rfl⟩
  rw [decide_eq_false c2]
  ((refine TrA.take 11 (by kernel_rfl) rfl (by kernel_rfl) (by exact fun _ _ _ h => h) (by exact fun _ h => h) rfl (by first | exact Stab.move rfl) rfl rfl ?_); ((refine TrA.takeg 12 (by kernel_rfl) rfl (by kernel_rfl) (by exact fun _ _ _ h => h) (by exact fun _ h => h) rfl rfl rfl (by (with_reducible rfl)) (by exact Stab.fieldZ rfl (tysOk.get rfl) rfl rfl (tysOk.get rfl) rfl) rfl rfl ?_)); ((refine TrA.takeg 14 (by kernel_rfl) rfl (by kernel_rfl) (by exact fun _ _ _ h => h) (by exact fun _ h => h) rfl rfl rfl (by (with_reducible rfl)) (by first | exact Stab.move rfl) rfl rfl ?_)); ((refine TrA.takeg 13 (by kernel_rfl) rfl (by kernel_rfl) (by exact fun _ _ _ h => h) (by exact fun _ h => h) rfl rfl rfl (by (with_reducible rfl)) (by exact Stab.load rfl (tysOk.get rfl) rfl (by repeat (first | exact Has.here | apply Has.there)) rfl) rfl rfl ?_)); ((refine TrA.takeg 15 (by kernel_rfl) rfl (by kernel_rfl) (by exact fun _ _ _ h => h) (by exact fun _ h => h) rfl rfl rfl (by (with_reducible rfl)) (by exact Stab.int rfl rfl rfl) rfl rfl ?_)); (refine TrA.take 16 (by kernel_rfl) rfl (by kernel_rfl) (by exact fun _ _ _ h => h) (by exact fun _ h => h) rfl (by exact Stab.pick_f rfl (by (with_reducible rfl)) rfl) rfl rfl ?_))
  by_cases c3 : ((num bs : Nat) : Int) ≠ (k : Int)
  · rw [decide_eq_true c3]
    ((refine TrA.take 17 (by kernel_rfl) rfl (by kernel_rfl) (by exact fun _ _ _ h => h) (by exact fun _ h => h) rfl (by first | exact Stab.move rfl) rfl rfl ?_); ((refine TrA.takeu 18 (by kernel_rfl) rfl (by kernel_rfl) (by exact fun _ _ _ h => h) (by exact fun _ h => h) rfl rfl rfl (by first | rfl | (simp; done) | (simp; omega)) rfl rfl ?_)); ((refine TrA.takeu 19 (by kernel_rfl) rfl (by kernel_rfl) (by exact fun _ _ _ h => h) (by exact fun _ h => h) rfl rfl rfl (by first | rfl | (simp; done) | (simp; omega)) rfl rfl ?_)); ((refine TrA.takeu 20 (by kernel_rfl) rfl (by kernel_rfl) (by exact fun _ _ _ h => h) (by exact fun _ h => h) rfl rfl rfl (by first | rfl | (simp; done) | (simp; omega)) rfl rfl ?_)); (refine TrA.take 21 (by kernel_rfl) rfl (by kernel_rfl) (by exact fun _ _ _ h => h) (by exact fun _ h => h) rfl (by exact Stab.pick_t rfl (by (with_reducible rfl)) rfl) rfl rfl ?_); (refine TrA.take 22 (by kernel_rfl) rfl (by kernel_rfl) (by exact fun _ _ _ h => h) (by exact fun _ h => h) rfl (by first | exact Stab.move rfl) rfl rfl ?_); ((refine TrA.takeu 23 (by kernel_rfl) rfl (by kernel_rfl) (by exact fun _ _ _ h => h) (by exact fun _ h => h) rfl rfl rfl (by first | rfl | (simp; done) | (simp; omega)) rfl rfl ?_)); ((refine TrA.takeu 24 (by kernel_rfl) rfl (by kernel_rfl) (by exact fun _ _ _ h => h) (by exact fun _ h => h) rfl rfl rfl (by first | rfl | (simp; done) | (simp; omega)) rfl rfl ?_)); ((refine TrA.takeu 25 (by kernel_rfl) rfl (by kernel_rfl) (by exact fun _ _ _ h => h) (by exact fun _ h => h) rfl rfl rfl (by first | rfl | (simp; done) | (simp; omega)) rfl rfl ?_)); (refine TrA.take 26 (by kernel_rfl) rfl (by kernel_rfl) (by exact fun _ _ _ h => h) (by exact fun _ h => h) rfl (by exact Stab.pick_t rfl (by (with_reducible rfl)) rfl) rfl rfl ?_); (refine TrA.done (by kernel_rfl) ?_))
    repeat (first | ((with_reducible refine Tr.step rfl ?_); (first | ((with_reducible refine Knd.assign ?_); (refine Exec.stab rfl (Stab.assign rfl) rfl ?_)) | ((with_reducible refine Knd.store ?_); ((refine Exec.storeW rfl rfl (tysOk.get rfl) (by repeat (first | exact Upd.here | apply Upd.there)) rfl rfl (by repeat (first | exact AllOne.nil | refine AllOne.cons (by first | rfl | assumption) ?_)) ?_))) | ((with_reducible refine Knd.build ?_); ((refine Exec.stab rfl (Stab.build tysOk rfl rfl rfl rfl (by repeat (exact BuildP.nil))) rfl ?_))))) | (with_reducible refine Tr.next ?_) | (with_reducible refine Tr.seq ?_) | (with_reducible refine Tr.region ?_) | (with_reducible refine Tr.nil ?_) | (with_reducible refine Tr.ret ?_) | (with_reducible refine Tr.then_ret ?_) | (refine Tr.cond_bt rfl (by (with_reducible rfl)) ?_))
    (refine Tr.done (by first | exact .inl rfl | exact .inr rfl) rfl (by repeat (first | exact RVs.nil | (apply RVs.cons; (first | exact RV.tmp rfl | exact RV.cellW (by rfl) (tysOk.get (by rfl)) (by rfl) (by repeat (first | exact Has.here | apply Has.there)) (by first | rfl | assumption))))) (by first | exact Mem.le.refl _ | assumption) (by exact ⟨[_], rfl⟩) ⟨rfl, ?_⟩)
    exact ⟨(hno k fun hg => c3 (by have := hg.2.2.1; omega)).symm, rfl⟩
  rw [decide_eq_false c3]
  ((refine TrA.take 17 (by kernel_rfl) rfl (by kernel_rfl) (by exact fun _ _ _ h => h) (by exact fun _ h => h) rfl (by first | exact Stab.move rfl) rfl rfl ?_); ((refine TrA.takeg 18 (by kernel_rfl) rfl (by kernel_rfl) (by exact fun _ _ _ h => h) (by exact fun _ h => h) rfl rfl rfl (by (with_reducible rfl)) (by exact Stab.fieldZ rfl (tysOk.get rfl) rfl rfl (tysOk.get rfl) rfl) rfl rfl ?_)); ((refine TrA.takeg 19 (by kernel_rfl) rfl (by kernel_rfl) (by exact fun _ _ _ h => h) (by exact fun _ h => h) rfl rfl rfl (by (with_reducible rfl)) (by exact Stab.load rfl (tysOk.get rfl) rfl (by repeat (first | exact Has.here | apply Has.there)) rfl) rfl rfl ?_)); ((refine TrA.takeg 20 (by kernel_rfl) rfl (by kernel_rfl) (by exact fun _ _ _ h => h) (by exact fun _ h => h) rfl rfl rfl (by (with_reducible rfl)) (by exact Stab.int rfl rfl rfl) rfl rfl ?_)); (refine TrA.take 21 (by kernel_rfl) rfl (by kernel_rfl) (by exact fun _ _ _ h => h) (by exact fun _ h => h) rfl (by exact Stab.pick_f rfl (by (with_reducible rfl)) rfl) rfl rfl ?_))
  by_cases c4 : (3 : Int) < (xf.toNat : Int)
  · rw [decide_eq_true c4]
    ((refine TrA.take 22 (by kernel_rfl) rfl (by kernel_rfl) (by exact fun _ _ _ h => h) (by exact fun _ h => h) rfl (by first | exact Stab.move rfl) rfl rfl ?_); ((refine TrA.takeu 23 (by kernel_rfl) rfl (by kernel_rfl) (by exact fun _ _ _ h => h) (by exact fun _ h => h) rfl rfl rfl (by first | rfl | (simp; done) | (simp; omega)) rfl rfl ?_)); ((refine TrA.takeu 24 (by kernel_rfl) rfl (by kernel_rfl) (by exact fun _ _ _ h => h) (by exact fun _ h => h) rfl rfl rfl (by first | rfl | (simp; done) | (simp; omega)) rfl rfl ?_)); ((refine TrA.takeu 25 (by kernel_rfl) rfl (by kernel_rfl) (by exact fun _ _ _ h => h) (by exact fun _ h => h) rfl rfl rfl (by first | rfl | (simp; done) | (simp; omega)) rfl rfl ?_)); (refine TrA.take 26 (by kernel_rfl) rfl (by kernel_rfl) (by exact fun _ _ _ h => h) (by exact fun _ h => h) rfl (by exact Stab.pick_t rfl (by (with_reducible rfl)) rfl) rfl rfl ?_); (refine TrA.done (by kernel_rfl) ?_))
    repeat (first | ((with_reducible refine Tr.step rfl ?_); (first | ((with_reducible refine Knd.assign ?_); (refine Exec.stab rfl (Stab.assign rfl) rfl ?_)) | ((with_reducible refine Knd.store ?_); ((refine Exec.storeW rfl rfl (tysOk.get rfl) (by repeat (first | exact Upd.here | apply Upd.there)) rfl rfl (by repeat (first | exact AllOne.nil | refine AllOne.cons (by first | rfl | assumption) ?_)) ?_))) | ((with_reducible refine Knd.build ?_); ((refine Exec.stab rfl (Stab.build tysOk rfl rfl rfl rfl (by repeat (exact BuildP.nil))) rfl ?_))))) | (with_reducible refine Tr.next ?_) | (with_reducible refine Tr.seq ?_) | (with_reducible refine Tr.region ?_) | (with_reducible refine Tr.nil ?_) | (with_reducible refine Tr.ret ?_) | (with_reducible refine Tr.then_ret ?_) | (refine Tr.cond_bt rfl (by (with_reducible rfl)) ?_))
    (refine Tr.done (by first | exact .inl rfl | exact .inr rfl) rfl (by repeat (first | exact RVs.nil | (apply RVs.cons; (first | exact RV.tmp rfl | exact RV.cellW (by rfl) (tysOk.get (by rfl)) (by rfl) (by repeat (first | exact Has.here | apply Has.there)) (by first | rfl | assumption))))) (by first | exact Mem.le.refl _ | assumption) (by exact ⟨[_], rfl⟩) ⟨rfl, ?_⟩)
    exact ⟨(hno k fun hg => by have := hg.2.2.2.1; rw [eK] at this; omega).symm, rfl⟩
  rw [decide_eq_false c4]
  ((refine TrA.take 22 (by kernel_rfl) rfl (by kernel_rfl) (by exact fun _ _ _ h => h) (by exact fun _ h => h) rfl (by first | exact Stab.move rfl) rfl rfl ?_); ((refine TrA.takeg 23 (by kernel_rfl) rfl (by kernel_rfl) (by exact fun _ _ _ h => h) (by exact fun _ h => h) rfl rfl rfl (by (with_reducible rfl)) (by exact Stab.fieldZ rfl (tysOk.get rfl) rfl rfl (tysOk.get rfl) rfl) rfl rfl ?_)); ((refine TrA.takeg 24 (by kernel_rfl) rfl (by kernel_rfl) (by exact fun _ _ _ h => h) (by exact fun _ h => h) rfl rfl rfl (by (with_reducible rfl)) (by exact Stab.load rfl (tysOk.get rfl) rfl (by repeat (first | exact Has.here | apply Has.there)) rfl) rfl rfl ?_)); ((refine TrA.takeg 25 (by kernel_rfl) rfl (by kernel_rfl) (by exact fun _ _ _ h => h) (by exact fun _ h => h) rfl rfl rfl (by (with_reducible rfl)) (by exact Stab.int rfl rfl rfl) rfl rfl ?_)); (refine TrA.take 26 (by kernel_rfl) rfl (by kernel_rfl) (by exact fun _ _ _ h => h) (by exact fun _ h => h) rfl (by exact Stab.pick_f rfl (by (with_reducible rfl)) rfl) rfl rfl ?_); (refine TrA.done (by kernel_rfl) ?_))
  by_cases c5 : (112 : Int) < (xm.toNat : Int)
  · repeat (first | ((with_reducible refine Tr.step rfl ?_); (first | ((with_reducible refine Knd.assign ?_); (refine Exec.stab rfl (Stab.assign rfl) rfl ?_)) | ((with_reducible refine Knd.store ?_); ((refine Exec.storeW rfl rfl (tysOk.get rfl) (by repeat (first | exact Upd.here | apply Upd.there)) rfl rfl (by repeat (first | exact AllOne.nil | refine AllOne.cons (by first | rfl | assumption) ?_)) ?_))) | ((with_reducible refine Knd.build ?_); ((refine Exec.stab rfl (Stab.build tysOk rfl rfl rfl rfl (by repeat (exact BuildP.nil))) rfl ?_))))) | (with_reducible refine Tr.next ?_) | (with_reducible refine Tr.seq ?_) | (with_reducible refine Tr.region ?_) | (with_reducible refine Tr.nil ?_) | (with_reducible refine Tr.ret ?_) | (with_reducible refine Tr.then_ret ?_) | (refine Tr.cond_t rfl (by (with_reducible assumption)) ?_))
    (refine Tr.done (by first | exact .inl rfl | exact .inr rfl) rfl (by repeat (first | exact RVs.nil | (apply RVs.cons; (first | exact RV.tmp rfl | exact RV.cellW (by rfl) (tysOk.get (by rfl)) (by rfl) (by repeat (first | exact Has.here | apply Has.there)) (by first | rfl | assumption))))) (by first | exact Mem.le.refl _ | assumption) (by exact ⟨[_], rfl⟩) ⟨rfl, ?_⟩)
    exact ⟨(hno k fun hg => by have := hg.2.2.2.2.1; rw [eM] at this; omega).symm, rfl⟩
  repeat (first | (with_reducible refine Tr.next ?_) | (with_reducible refine Tr.seq ?_) | (with_reducible refine Tr.skip ?_) | (refine Tr.cond_f rfl (by (with_reducible assumption)) ?_))
  (((apply Tr.draw); (kernel_rfl)); (refine TrA.take 0 (by kernel_rfl) rfl (by kernel_rfl) (by exact fun _ _ _ h => h) (by exact fun _ h => h) rfl (by first | exact Stab.move rfl) rfl rfl ?_); (refine TrA.take 4 (by kernel_rfl) rfl (by kernel_rfl) (by exact fun _ _ _ h => h) (by exact fun _ h => h) rfl (by first | exact Stab.move rfl) rfl rfl ?_); (refine TrA.take 1 (by kernel_rfl) rfl (by kernel_rfl) (by exact fun _ _ _ h => h) (by exact fun _ h => h) rfl (by exact Stab.slice_lh rfl rfl rfl (tysOk.get rfl) rfl (tysOk.get rfl) rfl (by omega) (by omega) (by omega)) rfl rfl ?_); (refine TrA.take 5 (by kernel_rfl) rfl (by kernel_rfl) (by exact fun _ _ _ h => h) (by exact fun _ h => h) rfl (by exact Stab.slice_l rfl rfl (tysOk.get rfl) rfl (tysOk.get rfl) rfl (by omega) (by omega)) rfl rfl ?_); (refine TrA.eff 2 rfl (by kernel_rfl) (by exact .inl rfl) ?_))
  refine Exec.call0 rfl (checksum_fn M _ _ _ _ hb8) rfl ?_
  rintro _ _ _ ⟨rfl, rfl⟩
  refine ⟨Mem.le.refl _, (by exact fun _ h => h), ?_⟩
  have lc := (crc (body bs)).toNat_lt
  ((refine TrA.take 3 (by kernel_rfl) rfl (by kernel_rfl) (by exact fun _ _ _ h => h) (by exact fun _ h => h) rfl (by exact Stab.convi rfl (tysOk.get rfl) (tysOk.get rfl) rfl rfl (by omega)) rfl rfl ?_); (refine TrA.eff 6 rfl (by kernel_rfl) (by exact .inl rfl) ?_))
  refine Exec.call0 rfl (number_fn M _ _ _ _ h4 (by simp; omega)) rfl ?_
  rintro _ _ _ ⟨rfl, rfl⟩
  refine ⟨Mem.le.refl _, (by exact fun _ h => h), ?_⟩
  rw [List.take_take, show min 4 (128 - 4) = 4 from rfl]
  ((refine TrA.take 7 (by kernel_rfl) rfl (by kernel_rfl) (by exact fun _ _ _ h => h) (by exact fun _ h => h) rfl (by exact Stab.int rfl rfl rfl) rfl rfl ?_); (refine TrA.done (by kernel_rfl) ?_))
  by_cases c6 : ((crc (body bs)).toNat : Int) ≠ ((be ((bs.drop 4).take 4) : Nat) : Int)
  · repeat (first | ((with_reducible refine Tr.step rfl ?_); (first | ((with_reducible refine Knd.assign ?_); (refine Exec.stab rfl (Stab.assign rfl) rfl ?_)) | ((with_reducible refine Knd.store ?_); ((refine Exec.storeW rfl rfl (tysOk.get rfl) (by repeat (first | exact Upd.here | apply Upd.there)) rfl rfl (by repeat (first | exact AllOne.nil | refine AllOne.cons (by first | rfl | assumption) ?_)) ?_))) | ((with_reducible refine Knd.build ?_); ((refine Exec.stab rfl (Stab.build tysOk rfl rfl rfl rfl (by repeat (exact BuildP.nil))) rfl ?_))))) | (with_reducible refine Tr.next ?_) | (with_reducible refine Tr.seq ?_) | (with_reducible refine Tr.region ?_) | (with_reducible refine Tr.nil ?_) | (with_reducible refine Tr.ret ?_) | (with_reducible refine Tr.then_ret ?_) | (refine Tr.cond_t rfl (by (with_reducible assumption)) ?_))
    (refine Tr.done (by first | exact .inl rfl | exact .inr rfl) rfl (by repeat (first | exact RVs.nil | (apply RVs.cons; (first | exact RV.tmp rfl | exact RV.cellW (by rfl) (tysOk.get (by rfl)) (by rfl) (by repeat (first | exact Has.here | apply Has.there)) (by first | rfl | assumption))))) (by first | exact Mem.le.refl _ | assumption) (by exact ⟨[_], rfl⟩) ⟨rfl, ?_⟩)
    exact ⟨(hno k fun hg => c6 (by have := hg.2.2.2.2.2.1; omega)).symm, rfl⟩
  repeat (first | ((with_reducible refine Tr.step rfl ?_); (first | ((with_reducible refine Knd.move ?_); (refine Exec.stab rfl (Stab.move rfl) rfl ?_)) | ((with_reducible refine Knd.load ?_); ((refine Exec.stab rfl (Stab.load rfl (tysOk.get rfl) rfl (by repeat (first | exact Has.here | apply Has.there)) rfl) rfl ?_))) | ((with_reducible refine Knd.fieldAddr ?_); ((refine Exec.stab rfl (Stab.fieldZ rfl (tysOk.get rfl) rfl rfl (tysOk.get rfl) rfl) rfl ?_))) | ((with_reducible refine Knd.len ?_); ((refine Exec.stab rfl (Stab.len rfl (tysOk.get rfl) rfl) rfl ?_))) | ((with_reducible refine Knd.binOp ?_); ((refine Exec.stab rfl (Stab.addi rfl rfl (by omega)) rfl ?_))) | ((with_reducible refine Knd.slice ?_); ((refine Exec.stab rfl (Stab.slice_lh rfl rfl rfl (tysOk.get rfl) rfl (tysOk.get rfl) rfl (by omega) (by omega) (by omega)) rfl ?_))))) | (with_reducible refine Tr.next ?_) | (with_reducible refine Tr.seq ?_) | (with_reducible refine Tr.region ?_) | (with_reducible refine Tr.nil ?_) | (with_reducible refine Tr.skip ?_) | (with_reducible refine Tr.block ?_) | (refine Tr.cond_f rfl (by (with_reducible assumption)) ?_))
  have hz : BSl M _ (rest bs) := h.sub (l := 12 + many bs) (k := 124) (m := c) (by omega) (by omega) (by omega) (by omega)
  rw [eM] at hz
  have e12 : ((12 : Int) + (xm.toNat : Int)).toNat = 12 + xm.toNat := by omega
  rw [e12]
  have e124 : (Int.toNat 124) = 124 := rfl
  rw [e124]
  have hzl : (rest bs).length = 124 - (12 + xm.toNat) := by rw [← hz.len]
  generalize (if c = 12 + xm.toNat then A else A.map (·.add ((12 + xm.toNat) * 1))) = A2 at hz ⊢
  generalize c - (12 + xm.toNat) = c2 at hz ⊢
  have hrl : 124 - (12 + xm.toNat) ≤ 112 := by omega
  rw [← hzl] at hz ⊢
  generalize hzr : rest bs = z at hz hzl
  rename_i bx _ _ _
  refine Tr.loop (α := Nat) (fun i => ⟨101, [(71, .int .i64 i), (70, .int .i64 z.length), (69, .slice A2 z.length c2), (4, .pointer (some ⟨_, 0, none⟩))], [], M, _⟩) (fun i => i ≤ z.length ∧ ∀ j x, j < i → z[j]? = some x → x = 0) (fun i => z.length - i) 0 ⟨Nat.zero_le _, fun j x hj => absurd hj (Nat.not_lt_zero _)⟩ (holds_sub (by repeat (first | exact SubFr.nil | refine SubFr.cons rfl ?_)) (by repeat (first | exact DropL.refl | apply DropL.skip))) (fun i hi => ?_)
  obtain ⟨hi, hall⟩ := hi
  by_cases hlt : i < z.length
  · obtain ⟨y, hy⟩ := get_of_lt hlt
    obtain ⟨hA2, hat⟩ := hz.byte hy
    by_cases hy0 : (y.toNat : Int) ≠ 0
    · have hng : ¬ goodS bs k := fun hg => by
        have := hg.2.2.2.2.2.2.1 y (by rw [hzr]; exact List.mem_of_getElem? hy)
        rw [this] at hy0
        exact hy0 rfl
      clear hall
      repeat (first | ((with_reducible refine Tr.step rfl ?_); (first | ((with_reducible refine Knd.move ?_); (refine Exec.stab rfl (Stab.move rfl) rfl ?_)) | ((with_reducible refine Knd.assign ?_); (refine Exec.stab rfl (Stab.assign rfl) rfl ?_)) | ((with_reducible refine Knd.load ?_); ((refine Exec.stab rfl (Stab.loadM rfl (tysOk.get rfl) rfl (by assumption)) rfl ?_))) | ((with_reducible refine Knd.binOp ?_); ((refine Exec.stab rfl (Stab.int rfl rfl rfl) rfl ?_))) | ((with_reducible refine Knd.store ?_); ((refine Exec.storeW rfl rfl (tysOk.get rfl) (by repeat (first | exact Upd.here | apply Upd.there)) rfl rfl (by repeat (first | exact AllOne.nil | refine AllOne.cons (by first | rfl | assumption) ?_)) ?_))) | ((with_reducible refine Knd.indexAddr ?_); ((refine Exec.stab rfl (Stab.indexAddr rfl rfl (tysOk.get rfl) rfl (tysOk.get rfl) rfl (by omega) (by omega) (by first | rfl | assumption)) rfl ?_))) | ((with_reducible refine Knd.build ?_); ((refine Exec.stab rfl (Stab.build tysOk rfl rfl rfl rfl (by repeat (exact BuildP.nil))) rfl ?_))))) | (with_reducible refine Tr.next ?_) | (with_reducible refine Tr.seq ?_) | (with_reducible refine Tr.region ?_) | (with_reducible refine Tr.nil ?_) | (with_reducible refine Tr.skip ?_) | (with_reducible refine Tr.block ?_) | (with_reducible refine Tr.ret ?_) | (with_reducible refine Tr.then_ret ?_) | (with_reducible refine Tr.in_ret ?_) | (refine Tr.cond_t rfl (by first | (with_reducible assumption) | omega) ?_))
      (refine Tr.done (by first | exact .inl rfl | exact .inr rfl) rfl (by repeat (first | exact RVs.nil | (apply RVs.cons; (first | exact RV.tmp rfl | exact RV.cellW (by rfl) (tysOk.get (by rfl)) (by rfl) (by repeat (first | exact Has.here | apply Has.there)) (by first | rfl | assumption))))) (by first | exact Mem.le.refl _ | assumption) (by exact ⟨[_], rfl⟩) ⟨rfl, ?_⟩)
      exact ⟨(hno k hng).symm, rfl⟩
    · repeat (first | ((with_reducible refine Tr.step rfl ?_); (first | ((with_reducible refine Knd.move ?_); (refine Exec.stab rfl (Stab.move rfl) rfl ?_)) | ((with_reducible refine Knd.assign ?_); (refine Exec.stab rfl (Stab.assign rfl) rfl ?_)) | ((with_reducible refine Knd.load ?_); ((refine Exec.stab rfl (Stab.loadM rfl (tysOk.get rfl) rfl (by assumption)) rfl ?_))) | ((with_reducible refine Knd.binOp ?_); (first | (refine Exec.stab rfl (Stab.addi rfl rfl (by omega)) rfl ?_) | (refine Exec.stab rfl (Stab.int rfl rfl rfl) rfl ?_))) | ((with_reducible refine Knd.indexAddr ?_); ((refine Exec.stab rfl (Stab.indexAddr rfl rfl (tysOk.get rfl) rfl (tysOk.get rfl) rfl (by omega) (by omega) (by first | rfl | assumption)) rfl ?_))))) | (with_reducible refine Tr.next ?_) | (with_reducible refine Tr.seq ?_) | (with_reducible refine Tr.region ?_) | (with_reducible refine Tr.nil ?_) | (with_reducible refine Tr.skip ?_) | (with_reducible refine Tr.block ?_) | (with_reducible refine Tr.in_normal ?_) | (refine Tr.cond_t rfl (by first | (with_reducible assumption) | omega) ?_) | (refine Tr.cond_f rfl (by (with_reducible assumption)) ?_))
      refine Tr.again (i + 1) ⟨by omega, fun j x hj hx => ?_⟩ (by omega) (holds_sub (by repeat (first | exact SubFr.nil | refine SubFr.cons rfl ?_)) (by repeat (first | exact DropL.refl | apply DropL.skip)))
      by_cases e : j = i
      · subst e
        rw [hy] at hx
        cases hx
        exact UInt8.toNat_inj.1 (by rw [show (0 : UInt8).toNat = 0 from rfl]; omega)
      · exact hall j x (by omega) hx
  · have hzero : ∀ x ∈ rest bs, x = 0 := fun x hx => by
      rw [hzr] at hx
      obtain ⟨j, hj⟩ := List.getElem?_of_mem hx
      exact hall j x (by have := (List.getElem?_eq_some_iff.1 hj).1; omega) hj
    clear hall
    have q2 := u8_and2 (x := xf) (by omega)
    have q1 := u8_and1 (x := xf) (by omega)
    by_cases d1 : ((xf &&& 2).toNat : Int) = 0
    · by_cases d2 : (xm.toNat : Int) ≠ 112
      · have hng : ¬ goodS bs k := fun hg => hg.2.2.2.2.2.2.2.1 ⟨by rw [eK]; omega, by rw [eM]; omega⟩
        by_cases d3 : ((xf &&& 1).toNat : Int) = 0
        · repeat (first | ((with_reducible refine Tr.step rfl ?_); (first | ((with_reducible refine Knd.move ?_); (refine Exec.stab rfl (Stab.move rfl) rfl ?_)) | ((with_reducible refine Knd.assign ?_); (refine Exec.stab rfl (Stab.assign rfl) rfl ?_)) | ((with_reducible refine Knd.load ?_); ((refine Exec.stab rfl (Stab.load rfl (tysOk.get rfl) rfl (by repeat (first | exact Has.here | apply Has.there)) rfl) rfl ?_))) | ((with_reducible refine Knd.fieldAddr ?_); ((refine Exec.stab rfl (Stab.fieldZ rfl (tysOk.get rfl) rfl rfl (tysOk.get rfl) rfl) rfl ?_))) | ((with_reducible refine Knd.binOp ?_); (first | (refine Exec.stab rfl (Stab.andbk 2 rfl rfl (by decide)) rfl ?_) | (refine Exec.stab rfl (Stab.int rfl rfl rfl) rfl ?_))) | ((with_reducible refine Knd.pick ?_); ((refine Exec.stab rfl (Stab.pick_td rfl (by (with_reducible assumption)) rfl) rfl ?_))) | ((with_reducible refine Knd.store ?_); ((refine Exec.storeW rfl rfl (tysOk.get rfl) (by repeat (first | exact Upd.here | apply Upd.there)) rfl rfl (by repeat (first | exact AllOne.nil | refine AllOne.cons (by first | rfl | assumption) ?_)) ?_))) | ((with_reducible refine Knd.build ?_); ((refine Exec.stab rfl (Stab.build tysOk rfl rfl rfl rfl (by repeat (exact BuildP.nil))) rfl ?_))))) | (with_reducible refine Tr.next ?_) | (with_reducible refine Tr.seq ?_) | (with_reducible refine Tr.region ?_) | (with_reducible refine Tr.nil ?_) | ((refine Tr.guard_y rfl rfl rfl (by (with_reducible assumption)) ?_); (first | ((with_reducible refine Knd.load ?_); ((refine Exec.stab rfl (Stab.load rfl (tysOk.get rfl) rfl (by repeat (first | exact Has.here | apply Has.there)) rfl) rfl ?_))) | ((with_reducible refine Knd.fieldAddr ?_); ((refine Exec.stab rfl (Stab.fieldZ rfl (tysOk.get rfl) rfl rfl (tysOk.get rfl) rfl) rfl ?_))) | ((with_reducible refine Knd.binOp ?_); ((refine Exec.stab rfl (Stab.int rfl rfl rfl) rfl ?_))))) | (refine Tr.guard_n' rfl rfl rfl (by (with_reducible assumption)) rfl rfl ?_) | (refine Tr.guard_u rfl rfl rfl rfl rfl ?_) | (with_reducible refine Tr.exit ?_) | (with_reducible refine Tr.ret ?_) | (with_reducible refine Tr.then_exit ?_) | (with_reducible refine Tr.then_ret ?_) | ((with_reducible refine Tr.in_exit ?_ ?_); (exact rfl)) | (refine Tr.cond_bt rfl (by (with_reducible rfl)) ?_) | (refine Tr.cond_f rfl (by first | (with_reducible assumption) | omega) ?_))
          (refine Tr.done (by first | exact .inl rfl | exact .inr rfl) rfl (by repeat (first | exact RVs.nil | (apply RVs.cons; (first | exact RV.tmp rfl | exact RV.cellW (by rfl) (tysOk.get (by rfl)) (by rfl) (by repeat (first | exact Has.here | apply Has.there)) (by first | rfl | assumption))))) (by first | exact Mem.le.refl _ | assumption) (by exact ⟨[_], rfl⟩) ⟨rfl, ?_⟩)
          exact ⟨(hno k hng).symm, rfl⟩
        · repeat (first | ((with_reducible refine Tr.step rfl ?_); (first | ((with_reducible refine Knd.move ?_); (refine Exec.stab rfl (Stab.move rfl) rfl ?_)) | ((with_reducible refine Knd.assign ?_); (refine Exec.stab rfl (Stab.assign rfl) rfl ?_)) | ((with_reducible refine Knd.load ?_); ((refine Exec.stab rfl (Stab.load rfl (tysOk.get rfl) rfl (by repeat (first | exact Has.here | apply Has.there)) rfl) rfl ?_))) | ((with_reducible refine Knd.fieldAddr ?_); ((refine Exec.stab rfl (Stab.fieldZ rfl (tysOk.get rfl) rfl rfl (tysOk.get rfl) rfl) rfl ?_))) | ((with_reducible refine Knd.binOp ?_); (first | (refine Exec.stab rfl (Stab.andbk 2 rfl rfl (by decide)) rfl ?_) | (refine Exec.stab rfl (Stab.int rfl rfl rfl) rfl ?_))) | ((with_reducible refine Knd.pick ?_); ((refine Exec.stab rfl (Stab.pick_td rfl (by (with_reducible assumption)) rfl) rfl ?_))) | ((with_reducible refine Knd.store ?_); ((refine Exec.storeW rfl rfl (tysOk.get rfl) (by repeat (first | exact Upd.here | apply Upd.there)) rfl rfl (by repeat (first | exact AllOne.nil | refine AllOne.cons (by first | rfl | assumption) ?_)) ?_))) | ((with_reducible refine Knd.build ?_); ((refine Exec.stab rfl (Stab.build tysOk rfl rfl rfl rfl (by repeat (exact BuildP.nil))) rfl ?_))))) | (with_reducible refine Tr.next ?_) | (with_reducible refine Tr.seq ?_) | (with_reducible refine Tr.region ?_) | (with_reducible refine Tr.nil ?_) | ((refine Tr.guard_y rfl rfl rfl (by (with_reducible assumption)) ?_); (first | ((with_reducible refine Knd.load ?_); ((refine Exec.stab rfl (Stab.load rfl (tysOk.get rfl) rfl (by repeat (first | exact Has.here | apply Has.there)) rfl) rfl ?_))) | ((with_reducible refine Knd.fieldAddr ?_); ((refine Exec.stab rfl (Stab.fieldZ rfl (tysOk.get rfl) rfl rfl (tysOk.get rfl) rfl) rfl ?_))) | ((with_reducible refine Knd.binOp ?_); ((refine Exec.stab rfl (Stab.int rfl rfl rfl) rfl ?_))))) | (refine Tr.guard_n' rfl rfl rfl (by (with_reducible assumption)) rfl rfl ?_) | (refine Tr.guard_u rfl rfl rfl rfl rfl ?_) | (with_reducible refine Tr.exit ?_) | (with_reducible refine Tr.ret ?_) | (with_reducible refine Tr.then_exit ?_) | (with_reducible refine Tr.then_ret ?_) | ((with_reducible refine Tr.in_exit ?_ ?_); (exact rfl)) | (refine Tr.cond_bt rfl (by (with_reducible rfl)) ?_) | (refine Tr.cond_f rfl (by first | (with_reducible assumption) | omega) ?_))
          (refine Tr.done (by first | exact .inl rfl | exact .inr rfl) rfl (by repeat (first | exact RVs.nil | (apply RVs.cons; (first | exact RV.tmp rfl | exact RV.cellW (by rfl) (tysOk.get (by rfl)) (by rfl) (by repeat (first | exact Has.here | apply Has.there)) (by first | rfl | assumption))))) (by first | exact Mem.le.refl _ | assumption) (by exact ⟨[_], rfl⟩) ⟨rfl, ?_⟩)
          exact ⟨(hno k hng).symm, rfl⟩
      · have d4 : ¬ (xm.toNat : Int) = 0 := by omega
        have hg : goodS bs k := ⟨by omega, by omega, by omega, by rw [eK]; omega, by rw [eM]; omega, by omega, hzero, fun ⟨_, h2⟩ => h2 (by rw [eM]; omega), fun ⟨_, h2⟩ => by rw [eM] at h2; omega⟩
        have hyes : goodR bs k = .tuple #[hdrV bs, .bool true] := if_pos hg
        by_cases d3 : ((xf &&& 1).toNat : Int) = 0
        · repeat (first | ((with_reducible refine Tr.step rfl ?_); (first | ((with_reducible refine Knd.move ?_); (refine Exec.stab rfl (Stab.move rfl) rfl ?_)) | ((with_reducible refine Knd.assign ?_); (refine Exec.stab rfl (Stab.assign rfl) rfl ?_)) | ((with_reducible refine Knd.load ?_); (first | (refine Exec.stab rfl (Stab.load rfl (tysOk.get rfl) rfl (by repeat (first | exact Has.here | apply Has.there)) rfl) rfl ?_) | (refine Exec.stab rfl (Stab.loadW rfl (tysOk.get rfl) rfl (by repeat (first | exact Has.here | apply Has.there)) rfl) rfl ?_))) | ((with_reducible refine Knd.fieldAddr ?_); ((refine Exec.stab rfl (Stab.fieldZ rfl (tysOk.get rfl) rfl rfl (tysOk.get rfl) rfl) rfl ?_))) | ((with_reducible refine Knd.binOp ?_); (first | (refine Exec.stab rfl (Stab.andbk 2 rfl rfl (by decide)) rfl ?_) | (refine Exec.stab rfl (Stab.int rfl rfl rfl) rfl ?_))) | ((with_reducible refine Knd.pick ?_); (first | (refine Exec.stab rfl (Stab.pick_td rfl (by (with_reducible assumption)) rfl) rfl ?_) | (refine Exec.stab rfl (Stab.pick_fd rfl (by (with_reducible assumption)) rfl) rfl ?_))) | ((with_reducible refine Knd.store ?_); ((refine Exec.storeW rfl rfl (tysOk.get rfl) (by repeat (first | exact Upd.here | apply Upd.there)) rfl rfl (by repeat (first | exact AllOne.nil | refine AllOne.cons (by first | rfl | assumption) ?_)) ?_))))) | (with_reducible refine Tr.next ?_) | (with_reducible refine Tr.seq ?_) | (with_reducible refine Tr.region ?_) | (with_reducible refine Tr.nil ?_) | ((refine Tr.guard_y rfl rfl rfl (by (with_reducible assumption)) ?_); (first | ((with_reducible refine Knd.load ?_); ((refine Exec.stab rfl (Stab.load rfl (tysOk.get rfl) rfl (by repeat (first | exact Has.here | apply Has.there)) rfl) rfl ?_))) | ((with_reducible refine Knd.fieldAddr ?_); ((refine Exec.stab rfl (Stab.fieldZ rfl (tysOk.get rfl) rfl rfl (tysOk.get rfl) rfl) rfl ?_))) | ((with_reducible refine Knd.binOp ?_); ((refine Exec.stab rfl (Stab.int rfl rfl rfl) rfl ?_))))) | ((refine Tr.guard_y' rfl rfl rfl (by (with_reducible assumption)) ?_); (first | ((with_reducible refine Knd.move ?_); (refine Exec.stab rfl (Stab.move rfl) rfl ?_)) | ((with_reducible refine Knd.load ?_); ((refine Exec.stab rfl (Stab.load rfl (tysOk.get rfl) rfl (by repeat (first | exact Has.here | apply Has.there)) rfl) rfl ?_))) | ((with_reducible refine Knd.fieldAddr ?_); ((refine Exec.stab rfl (Stab.fieldZ rfl (tysOk.get rfl) rfl rfl (tysOk.get rfl) rfl) rfl ?_))) | ((with_reducible refine Knd.binOp ?_); (first | (refine Exec.stab rfl (Stab.andbk 1 rfl rfl (by decide)) rfl ?_) | (refine Exec.stab rfl (Stab.int rfl rfl rfl) rfl ?_))) | ((with_reducible refine Knd.pick ?_); ((refine Exec.stab rfl (Stab.pick_td rfl (by (with_reducible assumption)) rfl) rfl ?_))))) | (with_reducible refine Tr.skip ?_) | (with_reducible refine Tr.exit ?_) | (with_reducible refine Tr.ret ?_) | (with_reducible refine Tr.then_exit ?_) | ((with_reducible refine Tr.in_exit ?_ ?_); (exact rfl)) | (refine Tr.cond_f rfl (by first | (with_reducible assumption) | omega) ?_))
          (refine Tr.done (by first | exact .inl rfl | exact .inr rfl) rfl (by repeat (first | exact RVs.nil | (apply RVs.cons; (first | exact RV.tmp rfl | exact RV.cellW (by rfl) (tysOk.get (by rfl)) (by rfl) (by repeat (first | exact Has.here | apply Has.there)) (by first | rfl | assumption))))) (by first | exact Mem.le.refl _ | assumption) (by exact ⟨[_], rfl⟩) ⟨rfl, ?_⟩)
          exact ⟨by rw [hyes, hdrV, eK, eM]; rfl, rfl⟩
        · repeat (first | ((with_reducible refine Tr.step rfl ?_); (first | ((with_reducible refine Knd.move ?_); (refine Exec.stab rfl (Stab.move rfl) rfl ?_)) | ((with_reducible refine Knd.assign ?_); (refine Exec.stab rfl (Stab.assign rfl) rfl ?_)) | ((with_reducible refine Knd.load ?_); (first | (refine Exec.stab rfl (Stab.load rfl (tysOk.get rfl) rfl (by repeat (first | exact Has.here | apply Has.there)) rfl) rfl ?_) | (refine Exec.stab rfl (Stab.loadW rfl (tysOk.get rfl) rfl (by repeat (first | exact Has.here | apply Has.there)) rfl) rfl ?_))) | ((with_reducible refine Knd.fieldAddr ?_); ((refine Exec.stab rfl (Stab.fieldZ rfl (tysOk.get rfl) rfl rfl (tysOk.get rfl) rfl) rfl ?_))) | ((with_reducible refine Knd.binOp ?_); (first | (refine Exec.stab rfl (Stab.andbk 2 rfl rfl (by decide)) rfl ?_) | (refine Exec.stab rfl (Stab.int rfl rfl rfl) rfl ?_))) | ((with_reducible refine Knd.pick ?_); (first | (refine Exec.stab rfl (Stab.pick_td rfl (by (with_reducible assumption)) rfl) rfl ?_) | (refine Exec.stab rfl (Stab.pick_fd rfl (by (with_reducible assumption)) rfl) rfl ?_))) | ((with_reducible refine Knd.store ?_); ((refine Exec.storeW rfl rfl (tysOk.get rfl) (by repeat (first | exact Upd.here | apply Upd.there)) rfl rfl (by repeat (first | exact AllOne.nil | refine AllOne.cons (by first | rfl | assumption) ?_)) ?_))))) | (with_reducible refine Tr.next ?_) | (with_reducible refine Tr.seq ?_) | (with_reducible refine Tr.region ?_) | (with_reducible refine Tr.nil ?_) | ((refine Tr.guard_y rfl rfl rfl (by (with_reducible assumption)) ?_); (first | ((with_reducible refine Knd.load ?_); ((refine Exec.stab rfl (Stab.load rfl (tysOk.get rfl) rfl (by repeat (first | exact Has.here | apply Has.there)) rfl) rfl ?_))) | ((with_reducible refine Knd.fieldAddr ?_); ((refine Exec.stab rfl (Stab.fieldZ rfl (tysOk.get rfl) rfl rfl (tysOk.get rfl) rfl) rfl ?_))) | ((with_reducible refine Knd.binOp ?_); ((refine Exec.stab rfl (Stab.int rfl rfl rfl) rfl ?_))))) | ((refine Tr.guard_y' rfl rfl rfl (by (with_reducible assumption)) ?_); (first | ((with_reducible refine Knd.move ?_); (refine Exec.stab rfl (Stab.move rfl) rfl ?_)) | ((with_reducible refine Knd.load ?_); ((refine Exec.stab rfl (Stab.load rfl (tysOk.get rfl) rfl (by repeat (first | exact Has.here | apply Has.there)) rfl) rfl ?_))) | ((with_reducible refine Knd.fieldAddr ?_); ((refine Exec.stab rfl (Stab.fieldZ rfl (tysOk.get rfl) rfl rfl (tysOk.get rfl) rfl) rfl ?_))) | ((with_reducible refine Knd.binOp ?_); (first | (refine Exec.stab rfl (Stab.andbk 1 rfl rfl (by decide)) rfl ?_) | (refine Exec.stab rfl (Stab.int rfl rfl rfl) rfl ?_))) | ((with_reducible refine Knd.pick ?_); ((refine Exec.stab rfl (Stab.pick_fd rfl (by (with_reducible assumption)) rfl) rfl ?_))))) | (refine Tr.guard_n rfl rfl rfl (by (with_reducible assumption)) rfl rfl ?_) | (with_reducible refine Tr.skip ?_) | (with_reducible refine Tr.exit ?_) | (with_reducible refine Tr.ret ?_) | (with_reducible refine Tr.then_exit ?_) | ((with_reducible refine Tr.in_exit ?_ ?_); (exact rfl)) | (refine Tr.cond_bf rfl (by (with_reducible rfl)) ?_) | (refine Tr.cond_f rfl (by first | (with_reducible assumption) | omega) ?_))
          (refine Tr.done (by first | exact .inl rfl | exact .inr rfl) rfl (by repeat (first | exact RVs.nil | (apply RVs.cons; (first | exact RV.tmp rfl | exact RV.cellW (by rfl) (tysOk.get (by rfl)) (by rfl) (by repeat (first | exact Has.here | apply Has.there)) (by first | rfl | assumption))))) (by first | exact Mem.le.refl _ | assumption) (by exact ⟨[_], rfl⟩) ⟨rfl, ?_⟩)
          exact ⟨by rw [hyes, hdrV, eK, eM]; rfl, rfl⟩
    · by_cases d3 : ((xf &&& 1).toNat : Int) = 0
      · by_cases d4 : (xm.toNat : Int) = 0
        · have hng : ¬ goodS bs k := fun hg => hg.2.2.2.2.2.2.2.2 ⟨by rw [eK]; omega, by rw [eM]; omega⟩
          repeat (first | ((with_reducible refine Tr.step rfl ?_); (first | ((with_reducible refine Knd.move ?_); (refine Exec.stab rfl (Stab.move rfl) rfl ?_)) | ((with_reducible refine Knd.assign ?_); (refine Exec.stab rfl (Stab.assign rfl) rfl ?_)) | ((with_reducible refine Knd.load ?_); ((refine Exec.stab rfl (Stab.load rfl (tysOk.get rfl) rfl (by repeat (first | exact Has.here | apply Has.there)) rfl) rfl ?_))) | ((with_reducible refine Knd.fieldAddr ?_); ((refine Exec.stab rfl (Stab.fieldZ rfl (tysOk.get rfl) rfl rfl (tysOk.get rfl) rfl) rfl ?_))) | ((with_reducible refine Knd.binOp ?_); (first | (refine Exec.stab rfl (Stab.andbk 2 rfl rfl (by decide)) rfl ?_) | (refine Exec.stab rfl (Stab.int rfl rfl rfl) rfl ?_))) | ((with_reducible refine Knd.pick ?_); (first | (refine Exec.stab rfl (Stab.pick_f rfl (by (with_reducible rfl)) rfl) rfl ?_) | (refine Exec.stab rfl (Stab.pick_fd rfl (by (with_reducible assumption)) rfl) rfl ?_))) | ((with_reducible refine Knd.store ?_); ((refine Exec.storeW rfl rfl (tysOk.get rfl) (by repeat (first | exact Upd.here | apply Upd.there)) rfl rfl (by repeat (first | exact AllOne.nil | refine AllOne.cons (by first | rfl | assumption) ?_)) ?_))) | ((with_reducible refine Knd.build ?_); ((refine Exec.stab rfl (Stab.build tysOk rfl rfl rfl rfl (by repeat (exact BuildP.nil))) rfl ?_))))) | (with_reducible refine Tr.next ?_) | (with_reducible refine Tr.seq ?_) | (with_reducible refine Tr.region ?_) | (with_reducible refine Tr.nil ?_) | ((refine Tr.guard_l rfl rfl rfl (by (with_reducible rfl)) ?_); (first | ((with_reducible refine Knd.move ?_); (refine Exec.stab rfl (Stab.move rfl) rfl ?_)) | ((with_reducible refine Knd.load ?_); ((refine Exec.stab rfl (Stab.load rfl (tysOk.get rfl) rfl (by repeat (first | exact Has.here | apply Has.there)) rfl) rfl ?_))) | ((with_reducible refine Knd.fieldAddr ?_); ((refine Exec.stab rfl (Stab.fieldZ rfl (tysOk.get rfl) rfl rfl (tysOk.get rfl) rfl) rfl ?_))) | ((with_reducible refine Knd.binOp ?_); (first | (refine Exec.stab rfl (Stab.andbk 1 rfl rfl (by decide)) rfl ?_) | (refine Exec.stab rfl (Stab.int rfl rfl rfl) rfl ?_))) | ((with_reducible refine Knd.pick ?_); ((refine Exec.stab rfl (Stab.pick_td rfl (by (with_reducible assumption)) rfl) rfl ?_))))) | ((refine Tr.guard_y rfl rfl rfl (by (with_reducible assumption)) ?_); (first | ((with_reducible refine Knd.load ?_); ((refine Exec.stab rfl (Stab.load rfl (tysOk.get rfl) rfl (by repeat (first | exact Has.here | apply Has.there)) rfl) rfl ?_))) | ((with_reducible refine Knd.fieldAddr ?_); ((refine Exec.stab rfl (Stab.fieldZ rfl (tysOk.get rfl) rfl rfl (tysOk.get rfl) rfl) rfl ?_))) | ((with_reducible refine Knd.binOp ?_); ((refine Exec.stab rfl (Stab.int rfl rfl rfl) rfl ?_))))) | (refine Tr.guard_n rfl rfl rfl (by (with_reducible assumption)) rfl rfl ?_) | (with_reducible refine Tr.exit ?_) | (with_reducible refine Tr.ret ?_) | (with_reducible refine Tr.then_exit ?_) | (with_reducible refine Tr.then_ret ?_) | ((with_reducible refine Tr.in_exit ?_ ?_); (exact rfl)) | (refine Tr.cond_t rfl (by (with_reducible assumption)) ?_) | (refine Tr.cond_f rfl (by first | (with_reducible assumption) | omega) ?_))
          (refine Tr.done (by first | exact .inl rfl | exact .inr rfl) rfl (by repeat (first | exact RVs.nil | (apply RVs.cons; (first | exact RV.tmp rfl | exact RV.cellW (by rfl) (tysOk.get (by rfl)) (by rfl) (by repeat (first | exact Has.here | apply Has.there)) (by first | rfl | assumption))))) (by first | exact Mem.le.refl _ | assumption) (by exact ⟨[_], rfl⟩) ⟨rfl, ?_⟩)
          exact ⟨(hno k hng).symm, rfl⟩
        · have hg : goodS bs k := ⟨by omega, by omega, by omega, by rw [eK]; omega, by rw [eM]; omega, by omega, hzero, fun ⟨h2, _⟩ => by rw [eK] at h2; omega, fun ⟨_, h2⟩ => by rw [eM] at h2; omega⟩
          have hyes : goodR bs k = .tuple #[hdrV bs, .bool true] := if_pos hg
          repeat (first | ((with_reducible refine Tr.step rfl ?_); (first | ((with_reducible refine Knd.move ?_); (refine Exec.stab rfl (Stab.move rfl) rfl ?_)) | ((with_reducible refine Knd.assign ?_); (refine Exec.stab rfl (Stab.assign rfl) rfl ?_)) | ((with_reducible refine Knd.load ?_); (first | (refine Exec.stab rfl (Stab.load rfl (tysOk.get rfl) rfl (by repeat (first | exact Has.here | apply Has.there)) rfl) rfl ?_) | (refine Exec.stab rfl (Stab.loadW rfl (tysOk.get rfl) rfl (by repeat (first | exact Has.here | apply Has.there)) rfl) rfl ?_))) | ((with_reducible refine Knd.fieldAddr ?_); ((refine Exec.stab rfl (Stab.fieldZ rfl (tysOk.get rfl) rfl rfl (tysOk.get rfl) rfl) rfl ?_))) | ((with_reducible refine Knd.binOp ?_); (first | (refine Exec.stab rfl (Stab.andbk 2 rfl rfl (by decide)) rfl ?_) | (refine Exec.stab rfl (Stab.int rfl rfl rfl) rfl ?_))) | ((with_reducible refine Knd.pick ?_); (first | (refine Exec.stab rfl (Stab.pick_f rfl (by (with_reducible rfl)) rfl) rfl ?_) | (refine Exec.stab rfl (Stab.pick_fd rfl (by (with_reducible assumption)) rfl) rfl ?_))) | ((with_reducible refine Knd.store ?_); ((refine Exec.storeW rfl rfl (tysOk.get rfl) (by repeat (first | exact Upd.here | apply Upd.there)) rfl rfl (by repeat (first | exact AllOne.nil | refine AllOne.cons (by first | rfl | assumption) ?_)) ?_))))) | (with_reducible refine Tr.next ?_) | (with_reducible refine Tr.seq ?_) | (with_reducible refine Tr.region ?_) | (with_reducible refine Tr.nil ?_) | ((refine Tr.guard_l rfl rfl rfl (by (with_reducible rfl)) ?_); (first | ((with_reducible refine Knd.move ?_); (refine Exec.stab rfl (Stab.move rfl) rfl ?_)) | ((with_reducible refine Knd.load ?_); ((refine Exec.stab rfl (Stab.load rfl (tysOk.get rfl) rfl (by repeat (first | exact Has.here | apply Has.there)) rfl) rfl ?_))) | ((with_reducible refine Knd.fieldAddr ?_); ((refine Exec.stab rfl (Stab.fieldZ rfl (tysOk.get rfl) rfl rfl (tysOk.get rfl) rfl) rfl ?_))) | ((with_reducible refine Knd.binOp ?_); (first | (refine Exec.stab rfl (Stab.andbk 1 rfl rfl (by decide)) rfl ?_) | (refine Exec.stab rfl (Stab.int rfl rfl rfl) rfl ?_))) | ((with_reducible refine Knd.pick ?_); ((refine Exec.stab rfl (Stab.pick_td rfl (by (with_reducible assumption)) rfl) rfl ?_))))) | ((refine Tr.guard_y rfl rfl rfl (by (with_reducible assumption)) ?_); (first | ((with_reducible refine Knd.load ?_); ((refine Exec.stab rfl (Stab.load rfl (tysOk.get rfl) rfl (by repeat (first | exact Has.here | apply Has.there)) rfl) rfl ?_))) | ((with_reducible refine Knd.fieldAddr ?_); ((refine Exec.stab rfl (Stab.fieldZ rfl (tysOk.get rfl) rfl rfl (tysOk.get rfl) rfl) rfl ?_))) | ((with_reducible refine Knd.binOp ?_); ((refine Exec.stab rfl (Stab.int rfl rfl rfl) rfl ?_))))) | (refine Tr.guard_n rfl rfl rfl (by (with_reducible assumption)) rfl rfl ?_) | (with_reducible refine Tr.skip ?_) | (with_reducible refine Tr.exit ?_) | (with_reducible refine Tr.ret ?_) | (with_reducible refine Tr.then_exit ?_) | ((with_reducible refine Tr.in_exit ?_ ?_); (exact rfl)) | (refine Tr.cond_f rfl (by first | (with_reducible assumption) | omega) ?_))
          (refine Tr.done (by first | exact .inl rfl | exact .inr rfl) rfl (by repeat (first | exact RVs.nil | (apply RVs.cons; (first | exact RV.tmp rfl | exact RV.cellW (by rfl) (tysOk.get (by rfl)) (by rfl) (by repeat (first | exact Has.here | apply Has.there)) (by first | rfl | assumption))))) (by first | exact Mem.le.refl _ | assumption) (by exact ⟨[_], rfl⟩) ⟨rfl, ?_⟩)
          exact ⟨by rw [hyes, hdrV, eK, eM]; rfl, rfl⟩
      · have hg : goodS bs k := ⟨by omega, by omega, by omega, by rw [eK]; omega, by rw [eM]; omega, by omega, hzero, fun ⟨h2, _⟩ => by rw [eK] at h2; omega, fun ⟨h2, _⟩ => by rw [eK] at h2; omega⟩
        have hyes : goodR bs k = .tuple #[hdrV bs, .bool true] := if_pos hg
        repeat (first | ((with_reducible refine Tr.step rfl ?_); (first | ((with_reducible refine Knd.move ?_); (refine Exec.stab rfl (Stab.move rfl) rfl ?_)) | ((with_reducible refine Knd.assign ?_); (refine Exec.stab rfl (Stab.assign rfl) rfl ?_)) | ((with_reducible refine Knd.load ?_); (first | (refine Exec.stab rfl (Stab.load rfl (tysOk.get rfl) rfl (by repeat (first | exact Has.here | apply Has.there)) rfl) rfl ?_) | (refine Exec.stab rfl (Stab.loadW rfl (tysOk.get rfl) rfl (by repeat (first | exact Has.here | apply Has.there)) rfl) rfl ?_))) | ((with_reducible refine Knd.fieldAddr ?_); ((refine Exec.stab rfl (Stab.fieldZ rfl (tysOk.get rfl) rfl rfl (tysOk.get rfl) rfl) rfl ?_))) | ((with_reducible refine Knd.binOp ?_); (first | (refine Exec.stab rfl (Stab.andbk 2 rfl rfl (by decide)) rfl ?_) | (refine Exec.stab rfl (Stab.int rfl rfl rfl) rfl ?_))) | ((with_reducible refine Knd.pick ?_); (first | (refine Exec.stab rfl (Stab.pick_f rfl (by (with_reducible rfl)) rfl) rfl ?_) | (refine Exec.stab rfl (Stab.pick_fd rfl (by (with_reducible assumption)) rfl) rfl ?_))) | ((with_reducible refine Knd.store ?_); ((refine Exec.storeW rfl rfl (tysOk.get rfl) (by repeat (first | exact Upd.here | apply Upd.there)) rfl rfl (by repeat (first | exact AllOne.nil | refine AllOne.cons (by first | rfl | assumption) ?_)) ?_))))) | (with_reducible refine Tr.next ?_) | (with_reducible refine Tr.seq ?_) | (with_reducible refine Tr.region ?_) | (with_reducible refine Tr.nil ?_) | ((refine Tr.guard_l rfl rfl rfl (by (with_reducible rfl)) ?_); (first | ((with_reducible refine Knd.move ?_); (refine Exec.stab rfl (Stab.move rfl) rfl ?_)) | ((with_reducible refine Knd.load ?_); ((refine Exec.stab rfl (Stab.load rfl (tysOk.get rfl) rfl (by repeat (first | exact Has.here | apply Has.there)) rfl) rfl ?_))) | ((with_reducible refine Knd.fieldAddr ?_); ((refine Exec.stab rfl (Stab.fieldZ rfl (tysOk.get rfl) rfl rfl (tysOk.get rfl) rfl) rfl ?_))) | ((with_reducible refine Knd.binOp ?_); (first | (refine Exec.stab rfl (Stab.andbk 1 rfl rfl (by decide)) rfl ?_) | (refine Exec.stab rfl (Stab.int rfl rfl rfl) rfl ?_))) | ((with_reducible refine Knd.pick ?_); ((refine Exec.stab rfl (Stab.pick_fd rfl (by (with_reducible assumption)) rfl) rfl ?_))))) | (refine Tr.guard_n rfl rfl rfl (by (with_reducible assumption)) rfl rfl ?_) | (with_reducible refine Tr.skip ?_) | (with_reducible refine Tr.exit ?_) | (with_reducible refine Tr.ret ?_) | (with_reducible refine Tr.then_exit ?_) | ((with_reducible refine Tr.in_exit ?_ ?_); (exact rfl)) | (refine Tr.cond_bf rfl (by (with_reducible rfl)) ?_) | (refine Tr.cond_f rfl (by first | (with_reducible assumption) | omega) ?_))
        (refine Tr.done (by first | exact .inl rfl | exact .inr rfl) rfl (by repeat (first | exact RVs.nil | (apply RVs.cons; (first | exact RV.tmp rfl | exact RV.cellW (by rfl) (tysOk.get (by rfl)) (by rfl) (by repeat (first | exact Has.here | apply Has.there)) (by first | rfl | assumption))))) (by first | exact Mem.le.refl _ | assumption) (by exact ⟨[_], rfl⟩) ⟨rfl, ?_⟩)
        exact ⟨by rw [hyes, hdrV, eK, eM]; rfl, rfl⟩
end Go.Proofs.Ytkbggengagockaa
/-
  The journal: the next generation, and the records compared.
  Conditions: none.
-/
namespace Go.Proofs.Ytkbggengagockaa
open Go Bf
attribute [local irreducible] Tr Exec Stab HasTy Go.Addr.add IntKind.wrap
/-- the greatest number at the places of the generations -/
def gmax (l : List (List UInt8)) : Nat := l.foldl (fun g s => max (max g (gen s)) (be (s.drop 124))) 0
theorem gmax_take {l : List (List UInt8)} {i : Nat} {x : List UInt8} (h : l[i]? = some x) : gmax (l.take (i + 1)) = max (max (gmax (l.take i)) (gen x)) (be (x.drop 124)) := by
  rw [List.take_add_one, h]
  simp [gmax, List.foldl_append]
theorem be_lt_aux8 (l : List UInt8) : ∀ n, l.foldl (fun n b => 256 * n + b.toNat) n < (n + 1) * 256 ^ l.length := by
  induction l with
  | nil => intro n; simp
  | cons b l ih =>
    intro n
    rw [List.foldl_cons, List.length_cons, Nat.pow_succ]
    refine Nat.lt_of_lt_of_le (ih _) ?_
    have := b.toNat_lt
    have h2 : 256 * n + b.toNat + 1 ≤ (n + 1) * 256 := by omega
    calc (256 * n + b.toNat + 1) * 256 ^ l.length ≤ ((n + 1) * 256) * 256 ^ l.length := Nat.mul_le_mul_right _ h2
      _ = (n + 1) * (256 ^ l.length * 256) := by rw [Nat.mul_assoc, Nat.mul_comm 256]
theorem be_lt4 (l : List UInt8) (h : l.length ≤ 4) : be l < 4294967296 := by
  have h1 := be_lt_aux8 l 0
  have h3 : 256 ^ l.length ≤ 256 ^ 4 := Nat.pow_le_pow_right (by decide) h
  have : be l = l.foldl (fun n b => 256 * n + b.toNat) 0 := rfl
  omega
theorem gmax_lt : ∀ (l : List (List UInt8)), (∀ s ∈ l, s.length = 128) → gmax l < 4294967296 := by
  have key : ∀ (l : List (List UInt8)) (n : Nat), n < 4294967296 → (∀ s ∈ l, s.length = 128) → l.foldl (fun g s => max (max g (gen s)) (be (s.drop 124))) n < 4294967296 := by
    intro l
    induction l with
    | nil => intro n h _; exact h
    | cons s l ih =>
      intro n hn h
      rw [List.foldl_cons]
      refine ih _ ?_ fun x hx => h x (List.mem_cons_of_mem _ hx)
      have hs := h s List.mem_cons_self
      have h1 : gen s < 4294967296 := be_lt4 _ (by simp; omega)
      have h2 : be (s.drop 124) < 4294967296 := be_lt4 _ (by simp; omega)
      omega
  exact fun l h => key l 0 (by decide) h

set_option maxHeartbeats 2000000 in
theorem next_fn (M : Mem) (v : Value) (d : Dsk) (h : RDisk M v d) (h128 : ∀ s ∈ d.sec, s.length = 128) :
    Fn0 Try.prog 44 [v] M (fun r M' => r = .int .i64 (((gmax d.sec + 1 : Nat)) : Int) ∧ M = M') := by
  obtain ⟨A, c, B, k, rfl, h1, h2⟩ := h
  have l1 := h1.len_le
  have hlast := gmax_lt d.sec h128
  refine Fn.intro Try.func44 rfl rfl Try.ntmps44 rfl fun E F => ?_
  repeat (first | ((with_reducible refine Tr.step rfl ?_); (first | ((with_reducible refine Knd.move ?_); (refine Exec.stab rfl (Stab.move rfl) rfl ?_)) | ((with_reducible refine Knd.assign ?_); (refine Exec.stab rfl (Stab.assign rfl) rfl ?_)) | ((with_reducible refine Knd.load ?_); ((refine Exec.stab rfl (Stab.load rfl (tysOk.get rfl) rfl (by repeat (first | exact Has.here | apply Has.there)) rfl) rfl ?_))) | ((with_reducible refine Knd.fieldAddr ?_); ((refine Exec.stab rfl (Stab.fieldZ rfl (tysOk.get rfl) rfl rfl (tysOk.get rfl) rfl) rfl ?_))) | ((with_reducible refine Knd.len ?_); ((refine Exec.stab rfl (Stab.len rfl (tysOk.get rfl) rfl) rfl ?_))) | ((with_reducible refine Knd.box ?_); ((refine Exec.box rfl rfl (fun b => ?_)))))) | (with_reducible refine Tr.next ?_) | (with_reducible refine Tr.seq ?_) | (with_reducible refine Tr.region ?_) | (with_reducible refine Tr.nil ?_) | (with_reducible refine Tr.block ?_))
  refine Tr.loop (α := Nat) (fun i => ⟨23, [(9, .int .i64 i), (8, .int .i64 d.sec.length), (7, .slice A d.sec.length c), (3, .int .i64 ((gmax (d.sec.take i) : Nat) : Int))], [], M, _⟩) (fun i => i ≤ d.sec.length) (fun i => d.sec.length - i) 0 (Nat.zero_le _) (holds_sub (by repeat (first | exact SubFr.nil | refine SubFr.cons rfl ?_)) (by repeat (first | exact DropL.refl | apply DropL.skip))) (fun i hi => ?_)
  by_cases hlt : i < d.sec.length
  · obtain ⟨x, hx⟩ := get_of_lt hlt
    have hxl := h128 x (List.mem_of_getElem? hx)
    obtain ⟨hA, ch, hat, A1, k1, rfl, hb⟩ := h1.elem hx
    rw [hxl] at hat hb
    have hst := gmax_take hx
    have ht : BSl M _ ((x.drop 124).take (128 - 124)) := hb.sub (l := 124) (k := 128) (m := k1) (by omega) (by omega) (by have := hb.cap.1; omega) (by have := hb.cap.1; omega)
    have ht4 : (x.drop 124).take (128 - 124) = x.drop 124 := List.take_of_length_le (by simp; omega)
    rw [ht4] at ht
    repeat (first | ((with_reducible refine Tr.step rfl ?_); (first | ((with_reducible refine Knd.assign ?_); (refine Exec.stab rfl (Stab.assign rfl) rfl ?_)) | ((with_reducible refine Knd.load ?_); ((refine Exec.stab rfl (Stab.loadM rfl (tysOk.get rfl) rfl (by assumption)) rfl ?_))) | ((with_reducible refine Knd.binOp ?_); ((refine Exec.stab rfl (Stab.int rfl rfl rfl) rfl ?_))) | ((with_reducible refine Knd.indexAddr ?_); ((refine Exec.stab rfl (Stab.indexAddr rfl rfl (tysOk.get rfl) rfl (tysOk.get rfl) rfl (by omega) (by omega) (by first | rfl | assumption)) rfl ?_))))) | (with_reducible refine Tr.next ?_) | (with_reducible refine Tr.seq ?_) | (with_reducible refine Tr.region ?_) | (with_reducible refine Tr.nil ?_) | (with_reducible refine Tr.skip ?_) | (with_reducible refine Tr.block ?_) | (refine Tr.cond_t rfl (by first | (with_reducible assumption) | omega) ?_))
    (((apply Tr.draw); (kernel_rfl)); (refine TrA.take 0 (by kernel_rfl) rfl (by kernel_rfl) (by exact fun _ _ _ h => h) (by exact fun _ h => h) rfl (by first | exact Stab.move rfl) rfl rfl ?_); (refine TrA.take 1 (by kernel_rfl) rfl (by kernel_rfl) (by exact fun _ _ _ h => h) (by exact fun _ h => h) rfl (by first | exact Stab.move rfl) rfl rfl ?_); (refine TrA.take 3 (by kernel_rfl) rfl (by kernel_rfl) (by exact fun _ _ _ h => h) (by exact fun _ h => h) rfl (by first | exact Stab.move rfl) rfl rfl ?_); (refine TrA.take 4 (by kernel_rfl) rfl (by kernel_rfl) (by exact fun _ _ _ h => h) (by exact fun _ h => h) rfl (by exact Stab.slice_l rfl rfl (tysOk.get rfl) rfl (tysOk.get rfl) rfl (by omega) (by omega)) rfl rfl ?_); (refine TrA.eff 2 rfl (by kernel_rfl) (by exact .inl rfl) ?_))
    refine Exec.call0 rfl (number_fn M _ _ _ x hb (by omega)) rfl ?_
    rintro _ _ _ ⟨rfl, rfl⟩
    refine ⟨Mem.le.refl _, (by exact fun _ h => h), ?_⟩
    ((refine TrA.eff 5 rfl (by kernel_rfl) (by exact .inl rfl) ?_))
    refine Exec.call0 rfl (number_fn M _ _ _ _ ht (by simp; omega)) rfl ?_
    rintro _ _ _ ⟨rfl, rfl⟩
    refine ⟨Mem.le.refl _, (by exact fun _ h => h), ?_⟩
    rw [show (x.drop 124).take 4 = x.drop 124 from List.take_of_length_le (by simp; omega)]
    ((refine TrA.take 6 (by kernel_rfl) rfl (by kernel_rfl) (by exact fun _ _ _ h => h) (by exact fun _ h => h) rfl (by first | exact Stab.max3 rfl rfl rfl) rfl rfl ?_); (refine TrA.take 7 (by kernel_rfl) rfl (by kernel_rfl) (by exact fun _ _ _ h => h) (by exact fun _ h => h) rfl (by first | exact Stab.assign rfl) rfl rfl ?_); (refine TrA.done (by kernel_rfl) ?_))
    have e : max (max ((gmax (d.sec.take i) : Nat) : Int) ((be (x.take 4) : Nat) : Int)) ((be (x.drop 124) : Nat) : Int) = ((gmax (d.sec.take (i + 1)) : Nat) : Int) := by
      rw [hst, show gen x = be (x.take 4) from rfl]
      omega
    rw [e]
    repeat (first | ((with_reducible refine Tr.step rfl ?_); (first | ((with_reducible refine Knd.move ?_); (refine Exec.stab rfl (Stab.move rfl) rfl ?_)) | ((with_reducible refine Knd.binOp ?_); ((refine Exec.stab rfl (Stab.addi rfl rfl (by omega)) rfl ?_))))) | (with_reducible refine Tr.next ?_) | (with_reducible refine Tr.region ?_) | (with_reducible refine Tr.nil ?_) | (with_reducible refine Tr.in_normal ?_))
    refine Tr.again (i + 1) (by omega) (by omega) (holds_sub (by repeat (first | exact SubFr.nil | refine SubFr.cons rfl ?_)) (by repeat (first | exact DropL.refl | apply DropL.skip)))
  · have e : i = d.sec.length := by omega
    subst e
    rw [List.take_length]
    repeat (first | ((with_reducible refine Tr.step rfl ?_); (first | ((with_reducible refine Knd.move ?_); (refine Exec.stab rfl (Stab.move rfl) rfl ?_)) | ((with_reducible refine Knd.assign ?_); (refine Exec.stab rfl (Stab.assign rfl) rfl ?_)) | ((with_reducible refine Knd.binOp ?_); (first | (refine Exec.stab rfl (Stab.addi rfl rfl (by omega)) rfl ?_) | (refine Exec.stab rfl (Stab.int rfl rfl rfl) rfl ?_))))) | (with_reducible refine Tr.next ?_) | (with_reducible refine Tr.seq ?_) | (with_reducible refine Tr.region ?_) | (with_reducible refine Tr.nil ?_) | (with_reducible refine Tr.exit ?_) | (with_reducible refine Tr.ret ?_) | (with_reducible refine Tr.then_exit ?_) | ((with_reducible refine Tr.in_exit ?_ ?_); (exact rfl)) | (refine Tr.cond_f rfl (by first | (with_reducible assumption) | omega) ?_))
    (refine Tr.done (by first | exact .inl rfl | exact .inr rfl) rfl (by repeat (first | exact RVs.nil | (apply RVs.cons; (exact RV.tmp rfl)))) (by first | exact Mem.le.refl _ | assumption) (by exact ⟨[_], rfl⟩) ⟨rfl, ?_⟩)
    exact ⟨rfl, rfl⟩

set_option maxHeartbeats 1000000 in
theorem bequal_fn (M : Mem) (A B : Option Addr) (n m c k : Nat) (x y : List UInt8) (hx : BSl M (.slice A n c) x) (hy : BSl M (.slice B m k) y) :
    Fn0 Try.prog 43 [.slice A n c, .slice B m k] M (fun r M' => r = .bool (decide (x = y)) ∧ M = M') := by
  refine Fn.intro Try.func43 rfl rfl Try.ntmps43 rfl fun E F => ?_
  repeat (first | ((with_reducible refine Tr.step rfl ?_); (first | ((with_reducible refine Knd.move ?_); (refine Exec.stab rfl (Stab.move rfl) rfl ?_)) | ((with_reducible refine Knd.assign ?_); (refine Exec.stab rfl (Stab.assign rfl) rfl ?_)) | ((with_reducible refine Knd.binOp ?_); ((refine Exec.stab rfl (Stab.streq rfl rfl) rfl ?_))) | ((with_reducible refine Knd.convert ?_); ((refine Exec.stab rfl (Stab.bstrB rfl (tysOk.get rfl) (tysOk.get rfl) rfl rfl (tysOk.get rfl) rfl (by assumption)) rfl ?_))))) | (with_reducible refine Tr.next ?_) | (with_reducible refine Tr.seq ?_) | (with_reducible refine Tr.region ?_) | (with_reducible refine Tr.nil ?_) | (with_reducible refine Tr.ret ?_))
  (refine Tr.done (by first | exact .inl rfl | exact .inr rfl) rfl (by repeat (first | exact RVs.nil | (apply RVs.cons; (exact RV.tmp rfl)))) (by first | exact Mem.le.refl _ | assumption) (by exact ⟨[], rfl⟩) ⟨rfl, ?_⟩)
  refine ⟨?_, rfl⟩
  refine congrArg Value.bool ?_
  by_cases e : x = y
  · subst e; simp
  · rw [decide_eq_false e]

theorem take_stepJ {α : Type} {a b : List α} {i : Nat} {x y : α} (hx : a[i]? = some x) (hy : b[i]? = some y) (h : a.take i = b.take i) (e : x = y) : a.take (i + 1) = b.take (i + 1) := by
  rw [List.take_add_one, List.take_add_one, hx, hy, h, e]
set_option maxHeartbeats 2000000 in
theorem equalF_fn (M : Mem) (A B : Option Addr) (c k : Nat) (l m : List (List UInt8)) (h1 : SlOf 1 RSec M (.slice A l.length c) l) (h2 : SlOf 1 RSec M (.slice B m.length k) m) :
    Fn0 Try.prog 42 [.slice A l.length c, .slice B m.length k, .func (.func 43) #[] #[]] M (fun r M' => r = .bool (decide (l = m)) ∧ M = M') := by
  have l1 := h1.len_le
  have l2 := h2.len_le
  refine Fn.intro Try.func42 rfl rfl Try.ntmps42 rfl fun E F => ?_
  by_cases c1 : (l.length : Int) ≠ (m.length : Int)
  · repeat (first | ((with_reducible refine Tr.step rfl ?_); (first | ((with_reducible refine Knd.move ?_); (refine Exec.stab rfl (Stab.move rfl) rfl ?_)) | ((with_reducible refine Knd.assign ?_); (refine Exec.stab rfl (Stab.assign rfl) rfl ?_)) | ((with_reducible refine Knd.len ?_); ((refine Exec.stab rfl (Stab.len rfl (tysOk.get rfl) rfl) rfl ?_))) | ((with_reducible refine Knd.binOp ?_); ((refine Exec.stab rfl (Stab.int rfl rfl rfl) rfl ?_))))) | (with_reducible refine Tr.next ?_) | (with_reducible refine Tr.seq ?_) | (with_reducible refine Tr.region ?_) | (with_reducible refine Tr.nil ?_) | (with_reducible refine Tr.ret ?_) | (with_reducible refine Tr.then_ret ?_) | (refine Tr.cond_t rfl (by (with_reducible assumption)) ?_))
    (refine Tr.done (by first | exact .inl rfl | exact .inr rfl) rfl (by repeat (first | exact RVs.nil | (apply RVs.cons; (exact RV.tmp rfl)))) (by first | exact Mem.le.refl _ | assumption) (by exact ⟨[], rfl⟩) ⟨rfl, ?_⟩)
    exact ⟨by rw [decide_eq_false (fun e => c1 (by rw [e]))]; rfl, rfl⟩
  repeat (first | ((with_reducible refine Tr.step rfl ?_); (first | ((with_reducible refine Knd.move ?_); (refine Exec.stab rfl (Stab.move rfl) rfl ?_)) | ((with_reducible refine Knd.assign ?_); (refine Exec.stab rfl (Stab.assign rfl) rfl ?_)) | ((with_reducible refine Knd.len ?_); ((refine Exec.stab rfl (Stab.len rfl (tysOk.get rfl) rfl) rfl ?_))) | ((with_reducible refine Knd.binOp ?_); ((refine Exec.stab rfl (Stab.int rfl rfl rfl) rfl ?_))))) | (with_reducible refine Tr.next ?_) | (with_reducible refine Tr.seq ?_) | (with_reducible refine Tr.region ?_) | (with_reducible refine Tr.nil ?_) | (with_reducible refine Tr.skip ?_) | (with_reducible refine Tr.block ?_) | (refine Tr.cond_f rfl (by (with_reducible assumption)) ?_))
  refine Tr.loop (α := Nat) (fun i => ⟨32, [(17, .int .i64 i), (16, .int .i64 l.length), (15, .slice A l.length c), (1, .slice B m.length k), (2, .func (.func 43) #[] #[])], [], M, _⟩) (fun i => i ≤ l.length ∧ l.take i = m.take i) (fun i => l.length - i) 0 ⟨Nat.zero_le _, rfl⟩ (holds_sub (by repeat (first | exact SubFr.nil | refine SubFr.cons rfl ?_)) (by repeat (first | exact DropL.refl | apply DropL.skip))) (fun i hi => ?_)
  obtain ⟨hi, heq⟩ := hi
  by_cases hlt : i < l.length
  · obtain ⟨x, hx⟩ := get_of_lt hlt
    obtain ⟨y, hy⟩ := get_of_lt (show i < m.length by omega)
    obtain ⟨hA1, ch1, hat1, A1, k1, rfl, hb1⟩ := h1.elem hx
    obtain ⟨hA2, ch2, hat2, A2, k2, rfl, hb2⟩ := h2.elem hy
    repeat (first | ((with_reducible refine Tr.step rfl ?_); (first | ((with_reducible refine Knd.move ?_); (refine Exec.stab rfl (Stab.move rfl) rfl ?_)) | ((with_reducible refine Knd.assign ?_); (refine Exec.stab rfl (Stab.assign rfl) rfl ?_)) | ((with_reducible refine Knd.load ?_); ((refine Exec.stab rfl (Stab.loadM rfl (tysOk.get rfl) rfl (by assumption)) rfl ?_))) | ((with_reducible refine Knd.binOp ?_); ((refine Exec.stab rfl (Stab.int rfl rfl rfl) rfl ?_))) | ((with_reducible refine Knd.indexAddr ?_); ((refine Exec.stab rfl (Stab.indexAddr rfl rfl (tysOk.get rfl) rfl (tysOk.get rfl) rfl (by omega) (by omega) (by first | rfl | assumption)) rfl ?_))))) | (with_reducible refine Tr.next ?_) | (with_reducible refine Tr.seq ?_) | (with_reducible refine Tr.region ?_) | (with_reducible refine Tr.nil ?_) | (with_reducible refine Tr.skip ?_) | (with_reducible refine Tr.block ?_) | (refine Tr.cond_t rfl (by first | (with_reducible assumption) | omega) ?_))
    ((refine Tr.step rfl ?_))
    refine Exec.callv (A := []) (first := []) (cap := []) rfl rfl (bequal_fn M A1 A2 _ _ k1 k2 x y hb1 hb2) (List.Perm.refl _) rfl ?_
    rintro _ _ _ - ⟨rfl, rfl, rfl⟩
    by_cases e : x = y
    · rw [decide_eq_true e]
      repeat (first | ((with_reducible refine Tr.step rfl ?_); (first | ((with_reducible refine Knd.move ?_); (refine Exec.stab rfl (Stab.move rfl) rfl ?_)) | ((with_reducible refine Knd.binOp ?_); ((refine Exec.stab rfl (Stab.addi rfl rfl (by omega)) rfl ?_))) | ((with_reducible refine Knd.unOp ?_); ((refine Exec.stab rfl (Stab.not rfl) rfl ?_))))) | (with_reducible refine Tr.next ?_) | (with_reducible refine Tr.region ?_) | (with_reducible refine Tr.nil ?_) | (with_reducible refine Tr.skip ?_) | (with_reducible refine Tr.in_normal ?_) | (refine Tr.cond_bf rfl (by first | (with_reducible rfl) | (with_reducible exact Bool.not_true)) ?_))
      refine Tr.again (i + 1) ⟨by omega, take_stepJ hx hy heq e⟩ (by omega) (holds_sub (by repeat (first | exact SubFr.nil | refine SubFr.cons rfl ?_)) (by repeat (first | exact DropL.refl | apply DropL.skip)))
    · rw [decide_eq_false e]
      have hne : ¬ l = m := fun h => e (by subst h; rw [hx] at hy; exact Option.some.inj hy)
      repeat (first | ((with_reducible refine Tr.step rfl ?_); (first | ((with_reducible refine Knd.assign ?_); (refine Exec.stab rfl (Stab.assign rfl) rfl ?_)) | ((with_reducible refine Knd.unOp ?_); ((refine Exec.stab rfl (Stab.not rfl) rfl ?_))))) | (with_reducible refine Tr.next ?_) | (with_reducible refine Tr.seq ?_) | (with_reducible refine Tr.region ?_) | (with_reducible refine Tr.nil ?_) | (with_reducible refine Tr.ret ?_) | (with_reducible refine Tr.then_ret ?_) | (with_reducible refine Tr.in_ret ?_) | (refine Tr.cond_bt rfl (by first | (with_reducible rfl) | (with_reducible exact Bool.not_false)) ?_))
      (refine Tr.done (by first | exact .inl rfl | exact .inr rfl) rfl (by repeat (first | exact RVs.nil | (apply RVs.cons; (exact RV.tmp rfl)))) (by first | exact Mem.le.refl _ | assumption) (by exact ⟨[], rfl⟩) ⟨rfl, ?_⟩)
      exact ⟨by rw [decide_eq_false hne]; rfl, rfl⟩
  · have e : i = l.length := by omega
    have hyes : l = m := by
      rw [e, List.take_length] at heq
      rw [heq]
      exact List.take_of_length_le (by omega)
    repeat (first | ((with_reducible refine Tr.step rfl ?_); (first | ((with_reducible refine Knd.assign ?_); (refine Exec.stab rfl (Stab.assign rfl) rfl ?_)) | ((with_reducible refine Knd.binOp ?_); ((refine Exec.stab rfl (Stab.int rfl rfl rfl) rfl ?_))))) | (with_reducible refine Tr.next ?_) | (with_reducible refine Tr.seq ?_) | (with_reducible refine Tr.region ?_) | (with_reducible refine Tr.nil ?_) | (with_reducible refine Tr.exit ?_) | (with_reducible refine Tr.ret ?_) | (with_reducible refine Tr.then_exit ?_) | ((with_reducible refine Tr.in_exit ?_ ?_); (exact rfl)) | (refine Tr.cond_f rfl (by first | (with_reducible assumption) | omega) ?_))
    (refine Tr.done (by first | exact .inl rfl | exact .inr rfl) rfl (by repeat (first | exact RVs.nil | (apply RVs.cons; (exact RV.tmp rfl)))) (by first | exact Mem.le.refl _ | assumption) (by exact ⟨[], rfl⟩) ⟨rfl, ?_⟩)
    exact ⟨by rw [decide_eq_true hyes]; rfl, rfl⟩
end Go.Proofs.Ytkbggengagockaa
/-
  The journal: the specification's number and checksum.
  Conditions: none.
-/
namespace Go.Proofs.Ytkbggengagockaa
open Go Bf
attribute [local irreducible] Tr Exec Stab HasTy Go.Addr.add IntKind.wrap
theorem be_step {bs : List UInt8} {i : Nat} {x : UInt8} (h : bs[i]? = some x) : be (bs.take (i + 1)) = 256 * be (bs.take i) + x.toNat := by
  rw [List.take_add_one, h]
  simp [be, List.foldl_append]
set_option maxHeartbeats 1000000 in
theorem rnumber_fn (M : Mem) (A : Option Addr) (n k : Nat) (bs : List UInt8) (h : BSl M (.slice A n k) bs) (hl : bs.length ≤ 4) :
    Fn0 Try.prog 60 [.slice A n k] M (fun r M' => r = .int .u64 ((be bs : Nat) : Int) ∧ M = M') := by
  have hn := h.len
  subst hn
  refine Fn.intro Try.func60 rfl rfl Try.ntmps60 rfl fun E F => ?_
  repeat (first | ((with_reducible refine Tr.step rfl ?_); (((with_reducible refine Knd.assign ?_); (refine Exec.stab rfl (Stab.assign rfl) rfl ?_)))) | (with_reducible refine Tr.next ?_) | (with_reducible refine Tr.seq ?_) | (with_reducible refine Tr.region ?_) | (with_reducible refine Tr.nil ?_) | (with_reducible refine Tr.block ?_))
  refine Tr.loop (α := Nat) (fun i => ⟨20, [(4, .int .i64 i), (3, .int .u64 ((be (bs.take i) : Nat) : Int)), (0, .slice A bs.length k)], [], M, _⟩) (fun i => i ≤ bs.length) (fun i => bs.length - i) 0 (Nat.zero_le _) (holds_sub (by repeat (first | exact SubFr.nil | refine SubFr.cons rfl ?_)) (by repeat (first | exact DropL.refl | apply DropL.skip))) (fun i hi => ?_)
  by_cases hlt : i < bs.length
  · obtain ⟨x, hx⟩ := get_of_lt hlt
    obtain ⟨hA, hat⟩ := h.byte hx
    have hst := be_step hx
    have hb1 : be (bs.take i) < 4294967296 := be_lt4 _ (by rw [List.length_take]; omega)
    have hx8 := x.toNat_lt
    repeat (first | ((with_reducible refine Tr.step rfl ?_); (first | ((with_reducible refine Knd.move ?_); (refine Exec.stab rfl (Stab.move rfl) rfl ?_)) | ((with_reducible refine Knd.assign ?_); (refine Exec.stab rfl (Stab.assign rfl) rfl ?_)) | ((with_reducible refine Knd.load ?_); ((refine Exec.stab rfl (Stab.loadM rfl (tysOk.get rfl) rfl (by assumption)) rfl ?_))) | ((with_reducible refine Knd.len ?_); ((refine Exec.stab rfl (Stab.len rfl (tysOk.get rfl) rfl) rfl ?_))) | ((with_reducible refine Knd.binOp ?_); (first | (refine Exec.stab rfl (Stab.addu64 rfl rfl (by omega)) rfl ?_) | (refine Exec.stab rfl (Stab.mulu64 rfl rfl (by omega)) rfl ?_) | (refine Exec.stab rfl (Stab.addi rfl rfl (by omega)) rfl ?_) | (refine Exec.stab rfl (Stab.int rfl rfl rfl) rfl ?_))) | ((with_reducible refine Knd.indexAddr ?_); ((refine Exec.stab rfl (Stab.indexAddr rfl rfl (tysOk.get rfl) rfl (tysOk.get rfl) rfl (by omega) (by omega) (by first | rfl | assumption)) rfl ?_))) | ((with_reducible refine Knd.convert ?_); ((refine Exec.stab rfl (Stab.convu64 rfl (tysOk.get rfl) (tysOk.get rfl) rfl rfl (by omega)) rfl ?_))))) | (with_reducible refine Tr.next ?_) | (with_reducible refine Tr.seq ?_) | (with_reducible refine Tr.region ?_) | (with_reducible refine Tr.nil ?_) | (with_reducible refine Tr.skip ?_) | (with_reducible refine Tr.block ?_) | (with_reducible refine Tr.in_normal ?_) | (refine Tr.cond_t rfl (by first | (with_reducible assumption) | omega) ?_))
    have e : 256 * ((be (bs.take i) : Nat) : Int) + (x.toNat : Int) = ((be (bs.take (i + 1)) : Nat) : Int) := by rw [hst]; omega
    rw [e]
    refine Tr.again (i + 1) (by omega) (by omega) (holds_sub (by repeat (first | exact SubFr.nil | refine SubFr.cons rfl ?_)) (by repeat (first | exact DropL.refl | apply DropL.skip)))
  · have e : i = bs.length := by omega
    subst e
    rw [List.take_length]
    repeat (first | ((with_reducible refine Tr.step rfl ?_); (first | ((with_reducible refine Knd.move ?_); (refine Exec.stab rfl (Stab.move rfl) rfl ?_)) | ((with_reducible refine Knd.assign ?_); (refine Exec.stab rfl (Stab.assign rfl) rfl ?_)) | ((with_reducible refine Knd.len ?_); ((refine Exec.stab rfl (Stab.len rfl (tysOk.get rfl) rfl) rfl ?_))) | ((with_reducible refine Knd.binOp ?_); ((refine Exec.stab rfl (Stab.int rfl rfl rfl) rfl ?_))))) | (with_reducible refine Tr.next ?_) | (with_reducible refine Tr.seq ?_) | (with_reducible refine Tr.region ?_) | (with_reducible refine Tr.nil ?_) | (with_reducible refine Tr.exit ?_) | (with_reducible refine Tr.ret ?_) | (with_reducible refine Tr.then_exit ?_) | ((with_reducible refine Tr.in_exit ?_ ?_); (exact rfl)) | (refine Tr.cond_f rfl (by first | (with_reducible assumption) | omega) ?_))
    (refine Tr.done (by first | exact .inl rfl | exact .inr rfl) rfl (by repeat (first | exact RVs.nil | (apply RVs.cons; (exact RV.tmp rfl)))) (by first | exact Mem.le.refl _ | assumption) (by exact ⟨[], rfl⟩) ⟨rfl, ?_⟩)
    exact ⟨rfl, rfl⟩
theorem and1_mod (n : UInt32) : (n &&& 1).toNat = n.toNat % 2 := by
  rw [UInt32.toNat_and, show (1 : UInt32).toNat = 1 from rfl, Nat.and_one_is_mod]
theorem xor_ones (n : UInt32) : n ^^^ 4294967295 = ~~~n := by
  apply UInt32.toBitVec_inj.1
  show n.toBitVec ^^^ BitVec.allOnes 32 = ~~~n.toBitVec
  rw [BitVec.xor_allOnes]
set_option maxHeartbeats 2000000 in
theorem rchecksum_fn (M : Mem) (A : Option Addr) (n k : Nat) (bs : List UInt8) (h : BSl M (.slice A n k) bs) :
    Fn0 Try.prog 64 [.slice A n k] M (fun r M' => r = .int .u32 ((crc bs).toNat : Int) ∧ M = M') := by
  have hn := h.len
  subst hn
  have hcap := h.len_le
  refine Fn.intro Try.func64 rfl rfl Try.ntmps64 rfl fun E F => ?_
  repeat (first | ((with_reducible refine Tr.step rfl ?_); (((with_reducible refine Knd.assign ?_); (refine Exec.stab rfl (Stab.assign rfl) rfl ?_)))) | (with_reducible refine Tr.next ?_) | (with_reducible refine Tr.seq ?_) | (with_reducible refine Tr.region ?_) | (with_reducible refine Tr.nil ?_) | (with_reducible refine Tr.block ?_))
  refine Tr.loop (α := Nat) (fun i => ⟨33, [(4, .int .i64 i), (0, .slice A bs.length k), (3, .int .u32 ((crcR (bs.take i)).toNat : Int))], [], M, _⟩) (fun i => i ≤ bs.length) (fun i => bs.length - i) 0 (Nat.zero_le _) (holds_sub (by repeat (first | exact SubFr.nil | refine SubFr.cons rfl ?_)) (by repeat (first | exact DropL.refl | apply DropL.skip))) (fun i hi => ?_)
  by_cases hlt : i < bs.length
  · obtain ⟨x, hx⟩ := get_of_lt hlt
    obtain ⟨hA, hat⟩ := h.byte hx
    have hst := crcR_take hx
    generalize crcR (bs.take i) = n at hst
    repeat (first | ((with_reducible refine Tr.step rfl ?_); (first | ((with_reducible refine Knd.move ?_); (refine Exec.stab rfl (Stab.move rfl) rfl ?_)) | ((with_reducible refine Knd.assign ?_); (refine Exec.stab rfl (Stab.assign rfl) rfl ?_)) | ((with_reducible refine Knd.load ?_); ((refine Exec.stab rfl (Stab.loadM rfl (tysOk.get rfl) rfl (by assumption)) rfl ?_))) | ((with_reducible refine Knd.len ?_); ((refine Exec.stab rfl (Stab.len rfl (tysOk.get rfl) rfl) rfl ?_))) | ((with_reducible refine Knd.binOp ?_); (first | (refine Exec.stab rfl (Stab.xorw rfl rfl) rfl ?_) | (refine Exec.stab rfl (Stab.int rfl rfl rfl) rfl ?_))) | ((with_reducible refine Knd.indexAddr ?_); ((refine Exec.stab rfl (Stab.indexAddr rfl rfl (tysOk.get rfl) rfl (tysOk.get rfl) rfl (by omega) (by omega) (by first | rfl | assumption)) rfl ?_))) | ((with_reducible refine Knd.convert ?_); ((refine Exec.stab rfl (Stab.byteW rfl (tysOk.get rfl) (tysOk.get rfl) rfl rfl) rfl ?_))))) | (with_reducible refine Tr.next ?_) | (with_reducible refine Tr.seq ?_) | (with_reducible refine Tr.region ?_) | (with_reducible refine Tr.nil ?_) | (with_reducible refine Tr.skip ?_) | (with_reducible refine Tr.block ?_) | (refine Tr.cond_t rfl (by first | (with_reducible assumption) | omega) ?_))
    refine Tr.loop (α := Nat) (fun k' => ⟨33, [(5, .int .i64 k'), (3, .int .u32 ((crcK k' (n ^^^ x.toUInt32)).toNat : Int)), (4, .int .i64 i), (0, .slice A bs.length k)], [], M, _⟩) (fun k' => k' ≤ 8) (fun k' => 8 - k') 0 (Nat.zero_le _) (holds_sub (by repeat (first | exact SubFr.nil | refine SubFr.cons rfl ?_)) (by repeat (first | exact DropL.refl | apply DropL.skip))) (fun k' hk' => ?_)
    by_cases hlt2 : k' < 8
    · generalize hv : crcK k' (n ^^^ x.toUInt32) = v
      have hv2 : crcK (k' + 1) (n ^^^ x.toUInt32) = crcS v := by rw [crcK, hv]
      have hm := and1_mod v
      have hv32 := v.toNat_lt
      by_cases ho : (v.toNat : Int) % 2 = 1
      · have := crcS_odd (n := v) (by omega)
        repeat (first | ((with_reducible refine Tr.step rfl ?_); (first | ((with_reducible refine Knd.move ?_); (refine Exec.stab rfl (Stab.move rfl) rfl ?_)) | ((with_reducible refine Knd.assign ?_); (refine Exec.stab rfl (Stab.assign rfl) rfl ?_)) | ((with_reducible refine Knd.binOp ?_); (first | (refine Exec.stab rfl (Stab.shrw 1 rfl rfl rfl (by decide)) rfl ?_) | (refine Exec.stab rfl (Stab.xorwk 3988292384 rfl rfl (by decide)) rfl ?_) | (refine Exec.stab rfl (Stab.addi rfl rfl (by omega)) rfl ?_) | (refine Exec.stab rfl (Stab.int rfl rfl rfl) rfl ?_) | (refine Exec.stab rfl (Stab.remp rfl rfl (by omega) (by omega)) rfl ?_))))) | (with_reducible refine Tr.next ?_) | (with_reducible refine Tr.seq ?_) | (with_reducible refine Tr.region ?_) | (with_reducible refine Tr.nil ?_) | (with_reducible refine Tr.skip ?_) | (with_reducible refine Tr.block ?_) | (with_reducible refine Tr.in_normal ?_) | (refine Tr.cond_t rfl (by first | (with_reducible assumption) | omega) ?_))
        rw [show UInt32.ofNat 1 = 1 from rfl, this, ← hv2]
        refine Tr.again (k' + 1) (by omega) (by omega) (holds_sub (by repeat (first | exact SubFr.nil | refine SubFr.cons rfl ?_)) (by repeat (first | exact DropL.refl | apply DropL.skip)))
      · have := crcS_even (n := v) (by omega)
        repeat (first | ((with_reducible refine Tr.step rfl ?_); (first | ((with_reducible refine Knd.move ?_); (refine Exec.stab rfl (Stab.move rfl) rfl ?_)) | ((with_reducible refine Knd.assign ?_); (refine Exec.stab rfl (Stab.assign rfl) rfl ?_)) | ((with_reducible refine Knd.binOp ?_); (first | (refine Exec.stab rfl (Stab.shrw 1 rfl rfl rfl (by decide)) rfl ?_) | (refine Exec.stab rfl (Stab.addi rfl rfl (by omega)) rfl ?_) | (refine Exec.stab rfl (Stab.int rfl rfl rfl) rfl ?_) | (refine Exec.stab rfl (Stab.remp rfl rfl (by omega) (by omega)) rfl ?_))))) | (with_reducible refine Tr.next ?_) | (with_reducible refine Tr.seq ?_) | (with_reducible refine Tr.region ?_) | (with_reducible refine Tr.nil ?_) | (with_reducible refine Tr.skip ?_) | (with_reducible refine Tr.block ?_) | (with_reducible refine Tr.in_normal ?_) | (refine Tr.cond_t rfl (by first | (with_reducible assumption) | omega) ?_) | (refine Tr.cond_f rfl (by (with_reducible assumption)) ?_))
        rw [show UInt32.ofNat 1 = 1 from rfl, this, ← hv2]
        refine Tr.again (k' + 1) (by omega) (by omega) (holds_sub (by repeat (first | exact SubFr.nil | refine SubFr.cons rfl ?_)) (by repeat (first | exact DropL.refl | apply DropL.skip)))
    · have e : k' = 8 := by omega
      subst e
      have e2 : crcK 8 (n ^^^ x.toUInt32) = crcR (bs.take (i + 1)) := by rw [hst]; rfl
      rw [e2]
      repeat (first | ((with_reducible refine Tr.step rfl ?_); (first | ((with_reducible refine Knd.move ?_); (refine Exec.stab rfl (Stab.move rfl) rfl ?_)) | ((with_reducible refine Knd.assign ?_); (refine Exec.stab rfl (Stab.assign rfl) rfl ?_)) | ((with_reducible refine Knd.binOp ?_); (first | (refine Exec.stab rfl (Stab.addi rfl rfl (by omega)) rfl ?_) | (refine Exec.stab rfl (Stab.int rfl rfl rfl) rfl ?_))))) | (with_reducible refine Tr.next ?_) | (with_reducible refine Tr.seq ?_) | (with_reducible refine Tr.region ?_) | (with_reducible refine Tr.nil ?_) | (with_reducible refine Tr.exit ?_) | (with_reducible refine Tr.then_exit ?_) | (with_reducible refine Tr.in_normal ?_) | ((with_reducible refine Tr.in_exit ?_ ?_); (exact rfl)) | (refine Tr.cond_f rfl (by first | (with_reducible assumption) | omega) ?_))
      refine Tr.again (i + 1) (by omega) (by omega) (holds_sub (by repeat (first | exact SubFr.nil | refine SubFr.cons rfl ?_)) (by repeat (first | exact DropL.refl | apply DropL.skip)))
  · have e : i = bs.length := by omega
    subst e
    rw [List.take_length]
    repeat (first | ((with_reducible refine Tr.step rfl ?_); (first | ((with_reducible refine Knd.move ?_); (refine Exec.stab rfl (Stab.move rfl) rfl ?_)) | ((with_reducible refine Knd.assign ?_); (refine Exec.stab rfl (Stab.assign rfl) rfl ?_)) | ((with_reducible refine Knd.len ?_); ((refine Exec.stab rfl (Stab.len rfl (tysOk.get rfl) rfl) rfl ?_))) | ((with_reducible refine Knd.binOp ?_); (first | (refine Exec.stab rfl (Stab.xorwk 4294967295 rfl rfl (by decide)) rfl ?_) | (refine Exec.stab rfl (Stab.int rfl rfl rfl) rfl ?_))))) | (with_reducible refine Tr.next ?_) | (with_reducible refine Tr.seq ?_) | (with_reducible refine Tr.region ?_) | (with_reducible refine Tr.nil ?_) | (with_reducible refine Tr.exit ?_) | (with_reducible refine Tr.ret ?_) | (with_reducible refine Tr.then_exit ?_) | ((with_reducible refine Tr.in_exit ?_ ?_); (exact rfl)) | (refine Tr.cond_f rfl (by first | (with_reducible assumption) | omega) ?_))
    (refine Tr.done (by first | exact .inl rfl | exact .inr rfl) rfl (by repeat (first | exact RVs.nil | (apply RVs.cons; (exact RV.tmp rfl)))) (by first | exact Mem.le.refl _ | assumption) (by exact ⟨[], rfl⟩) ⟨rfl, ?_⟩)
    exact ⟨by rw [xor_ones]; rfl, rfl⟩
end Go.Proofs.Ytkbggengagockaa
/-
  The journal: the sector that a piece of a record leads to.
  Conditions: none.
-/
namespace Go.Proofs.Ytkbggengagockaa
open Go Bf
theorem slK (b m k : Nat) (h : ¬ m = k) : (if m = k then some (⟨b, 0, none⟩ : Addr) else Option.map (fun x : Addr => x.add (k * 1)) (some (⟨b, 0, none⟩ : Addr))) = some ⟨b, k, none⟩ := by
  rw [if_neg h, Option.map_some, Addr.add_lit, Nat.zero_add, Nat.mul_one]
attribute [local irreducible] Tr Exec Stab HasTy Go.Addr.add IntKind.wrap
/-- a number as four bytes -/
def be4 (n : Nat) : List UInt8 := [UInt8.ofNat (n / 16777216), UInt8.ofNat (n / 65536), UInt8.ofNat (n / 256), UInt8.ofNat n]
theorem be4_length (n : Nat) : (be4 n).length = 4 := rfl
theorem be_be4 {n : Nat} (h : n < 4294967296) : be (be4 n) = n := by
  rw [be4, be_four]
  simp only [UInt8.toNat_ofNat']
  omega
set_option maxHeartbeats 1000000 in
theorem write4_fn (M : Mem) (n : Nat) (h : n < 4294967296) :
    Fn0 Try.prog 67 [.int .i64 (n : Int)] M (fun r M' => r = .agg (byteV (be4 n)).toArray ∧ M = M') := by
  refine Fn.intro Try.func67 rfl rfl Try.ntmps67 rfl fun E F => ?_
  repeat (first | ((with_reducible refine Tr.step rfl ?_); (first | ((with_reducible refine Knd.move ?_); (refine Exec.stab rfl (Stab.move rfl) rfl ?_)) | ((with_reducible refine Knd.binOp ?_); (first | (refine Exec.stab rfl (Stab.shrc 8 (p := 256) rfl rfl rfl rfl) rfl ?_) | (refine Exec.stab rfl (Stab.shrc 16 (p := 65536) rfl rfl rfl rfl) rfl ?_) | (refine Exec.stab rfl (Stab.shrc 24 (p := 16777216) rfl rfl rfl rfl) rfl ?_))) | ((with_reducible refine Knd.store ?_); ((refine Exec.storeW rfl rfl (tysOk.get rfl) (by repeat (first | exact Upd.here | apply Upd.there)) rfl rfl (by repeat (first | exact AllOne.nil | refine AllOne.cons (by first | rfl | assumption) ?_)) ?_))) | ((with_reducible refine Knd.alloc ?_); ((refine Exec.alloc (tysOk.get rfl) rfl rfl (fun b => ?_)))) | ((with_reducible refine Knd.convert ?_); ((refine Exec.stab rfl (Stab.lowb rfl (tysOk.get rfl) (tysOk.get rfl) rfl rfl) rfl ?_))) | ((with_reducible refine Knd.build ?_); ((refine Exec.stab rfl (Stab.buildA (tysOk.get rfl) rfl (tysOk.get rfl) rfl rfl (by repeat (first | exact BuildP.nil | ((apply BuildP.one); (rfl); (rfl); (first | rfl | assumption); (repeat (first | exact SetL.z | apply SetL.s)))))) rfl ?_))))) | (with_reducible refine Tr.next ?_) | (with_reducible refine Tr.seq ?_) | (with_reducible refine Tr.region ?_) | (with_reducible refine Tr.nil ?_) | (with_reducible refine Tr.ret ?_))
  (refine Tr.done (by first | exact .inl rfl | exact .inr rfl) rfl (by repeat (first | exact RVs.nil | (apply RVs.cons; (exact RV.cellW (by rfl) (tysOk.get (by rfl)) (by rfl) (by repeat (first | exact Has.here | apply Has.there)) (by first | rfl | assumption))))) (by first | exact Mem.le.refl _ | assumption) (by exact ⟨[_], rfl⟩) ⟨rfl, ?_⟩)
  exact ⟨rfl, rfl⟩

/-- the bytes of a sector that the checksum is of -/
def bodyF (n : Nat) (f : UInt8) (b : List UInt8) : List UInt8 := [UInt8.ofNat (n / 256), UInt8.ofNat n, f, UInt8.ofNat b.length] ++ b ++ List.replicate (112 - b.length) 0
def bF (g n : Nat) (f : UInt8) (b : List UInt8) : List UInt8 := be4 g ++ be4 (crc (bodyF n f b)).toNat ++ bodyF n f b ++ be4 g
theorem bodyF_length {n : Nat} {f : UInt8} {b : List UInt8} (h : b.length ≤ 112) : (bodyF n f b).length = 116 := by
  simp only [bodyF, List.length_append, List.length_replicate, List.length_cons, List.length_nil]; omega
theorem bF_length {g n : Nat} {f : UInt8} {b : List UInt8} (h : b.length ≤ 112) : (bF g n f b).length = 128 := by
  simp only [bF, List.length_append, be4_length, bodyF_length h]
theorem byteV_patch (S q : List UInt8) (o : Nat) : (byteV S).take o ++ byteV q ++ (byteV S).drop (o + (byteV q).length) = byteV (S.take o ++ q ++ S.drop (o + q.length)) := by
  simp [byteV, List.map_take, List.map_drop]
def sec0 (n : Nat) (f : UInt8) (p : List UInt8) : List UInt8 := List.replicate 8 0 ++ [UInt8.ofNat (n / 256), UInt8.ofNat n, f, UInt8.ofNat p.length] ++ List.replicate 116 0
def sec1 (n : Nat) (f : UInt8) (p : List UInt8) : List UInt8 := List.replicate 8 0 ++ bodyF n f p ++ List.replicate 4 0
theorem sec_patch0 (n : Nat) (f : UInt8) (p : List UInt8) (hl : p.length ≤ 112) : (sec0 n f p).take 12 ++ p ++ (sec0 n f p).drop (12 + p.length) = sec1 n f p := by
  have e1 : (sec0 n f p).take 12 = List.replicate 8 0 ++ [UInt8.ofNat (n / 256), UInt8.ofNat n, f, UInt8.ofNat p.length] := rfl
  have e2 : (sec0 n f p).drop 12 = List.replicate 116 0 := rfl
  have e3 : (sec0 n f p).drop (12 + p.length) = List.replicate (116 - p.length) 0 := by
    rw [← List.drop_drop, e2, List.drop_replicate]
  have e4 : List.replicate (116 - p.length) (0 : UInt8) = List.replicate (112 - p.length) 0 ++ List.replicate 4 0 := by
    rw [List.replicate_append_replicate]; congr 1; omega
  rw [e1, e3, e4, sec1, bodyF]
  simp only [List.append_assoc]
def sec2 (g n : Nat) (f : UInt8) (p : List UInt8) : List UInt8 := be4 g ++ List.replicate 4 0 ++ bodyF n f p ++ List.replicate 4 0
def sec3 (g n : Nat) (f : UInt8) (p : List UInt8) : List UInt8 := be4 g ++ be4 (crc (bodyF n f p)).toNat ++ bodyF n f p ++ List.replicate 4 0
theorem sec_patch1 (g n : Nat) (f : UInt8) (p : List UInt8) : (sec1 n f p).take 0 ++ be4 g ++ (sec1 n f p).drop (0 + 4) = sec2 g n f p := rfl
theorem sec_patch2 (g n : Nat) (f : UInt8) (p : List UInt8) : (sec2 g n f p).take 4 ++ be4 (crc (bodyF n f p)).toNat ++ (sec2 g n f p).drop (4 + 4) = sec3 g n f p := rfl
theorem sec_patch3 (g n : Nat) (f : UInt8) (p : List UInt8) (hl : p.length ≤ 112) : (sec3 g n f p).take 124 ++ be4 g ++ (sec3 g n f p).drop (124 + 4) = bF g n f p := by
  have h : (be4 g ++ be4 (crc (bodyF n f p)).toNat ++ bodyF n f p).length = 124 := by
    simp only [List.length_append, be4_length, bodyF_length hl]
  have h2 : (sec3 g n f p).drop (124 + 4) = [] := by
    apply List.drop_eq_nil_of_le
    simp only [sec3, List.length_append, be4_length, bodyF_length hl, List.length_replicate]
    omega
  rw [h2, sec3, List.take_left' h, bF, List.append_nil]
theorem sec1_body (n : Nat) (f : UInt8) (p : List UInt8) (hl : p.length ≤ 112) : ((sec1 n f p).drop 8).take (124 - 8) = bodyF n f p := by
  have e : (sec1 n f p).drop 8 = bodyF n f p ++ List.replicate 4 0 := rfl
  rw [e, List.take_left' (bodyF_length hl)]
theorem sec1_length (n : Nat) (f : UInt8) (p : List UInt8) (hl : p.length ≤ 112) : (sec1 n f p).length = 128 := by
  simp only [sec1, List.length_append, List.length_replicate, bodyF_length hl]
theorem patchV (S q S' : List UInt8) (o : Nat) (h : S.take o ++ q ++ S.drop (o + q.length) = S') : (byteV S).take o ++ byteV q ++ (byteV S).drop (o + (byteV q).length) = byteV S' := by
  rw [byteV_patch, h]
theorem checksum_lend (M : Mem) (b : Nat) (S : List UInt8) (hS : S.length = 128) : Bf.Fn Try.prog 65 [.slice (some ⟨b, 8, none⟩) 116 120] M [box b 5 (byteV S)]
    (fun v M' A' => A' = [box b 5 (byteV S)] ∧ M = M' ∧ v = .int .u32 ((crc ((S.drop 8).take 116)).toNat : Int)) :=
  Fn.lend (checksum_fn M none 0 0 [] (BSl.nil M)).1 fun M' hm hok => by
    have h := BSl.ofBox (hok _ List.mem_cons_self) (by omega)
    have h2 := h.sub (l := 8) (k := 124) (m := 128) (by omega) (by omega) (by omega) (by omega)
    rw [slK b 128 8 (by decide)] at h2
    exact checksum_fn M' (some ⟨b, 8, none⟩) 116 120 _ h2
set_option maxHeartbeats 4000000 in
theorem build_fn (M : Mem) (g n : Nat) (f : UInt8) (mm : Int) (A : Option Addr) (c : Nat) (p : List UInt8) (hb : BSl M (.slice A p.length c) p) (hl : p.length ≤ 112) (hg : g < 4294967296) (hn : n < 65536) :
    Fn0 Try.prog 62 [.agg #[.int .i64 (g : Int), .int .i64 (n : Int), .int .u8 (f.toNat : Int), .int .i64 mm], .slice A p.length c] M (fun r M' => ∃ A' c', r = .slice A' 128 c' ∧ BSl M' (.slice A' 128 c') (bF g n f p)) := by
  obtain ⟨h1, h2, h3, h4⟩ := hb.cap
  have lc := (crc (bodyF n f p)).toNat_lt
  refine Fn.intro Try.func62 rfl rfl Try.ntmps62 rfl fun E F => ?_
  repeat (first | ((with_reducible refine Tr.step rfl ?_); (first | ((with_reducible refine Knd.assign ?_); (refine Exec.stab rfl (Stab.assign rfl) rfl ?_)) | ((with_reducible refine Knd.box ?_); ((refine Exec.box rfl rfl (fun b => ?_)))) | ((with_reducible refine Knd.makeSlice ?_); (refine Exec.make rfl rfl (tysOk.get rfl) rfl (tysOk.get rfl) rfl rfl rfl (by omega) (by omega) (by first | omega | (simp; done) | (simp; omega)) (by omega) rfl (fun b => ?_))))) | (with_reducible refine Tr.next ?_) | (with_reducible refine Tr.seq ?_) | (with_reducible refine Tr.region ?_) | (with_reducible refine Tr.nil ?_))
  (((apply Tr.draw ((box _ 84 _ :: _))); (kernel_rfl)); (refine TrA.take 0 (by kernel_rfl) rfl (by kernel_rfl) (by exact fun _ _ _ h => h) (by exact (Sub.mem (by repeat (first | exact Sub.refl | apply Sub.cons)))) rfl (by first | exact Stab.move rfl) rfl rfl ?_); (refine TrA.take 1 (by kernel_rfl) rfl (by kernel_rfl) (by exact fun _ _ _ h => h) (by exact (Sub.mem (by repeat (first | exact Sub.refl | apply Sub.cons)))) rfl (by first | exact Stab.move rfl) rfl rfl ?_); (refine TrA.take 2 (by kernel_rfl) rfl (by kernel_rfl) (by exact fun _ _ _ h => h) (by exact (Sub.mem (by repeat (first | exact Sub.refl | apply Sub.cons)))) rfl (by exact Stab.fieldZ rfl (tysOk.get rfl) rfl rfl (tysOk.get rfl) rfl) rfl rfl ?_); (refine TrA.take 6 (by kernel_rfl) rfl (by kernel_rfl) (by exact fun _ _ _ h => h) (by exact (Sub.mem (by repeat (first | exact Sub.refl | apply Sub.cons)))) rfl (by exact Stab.fieldZ rfl (tysOk.get rfl) rfl rfl (tysOk.get rfl) rfl) rfl rfl ?_); (refine TrA.take 3 (by kernel_rfl) rfl (by kernel_rfl) (by exact fun _ _ _ h => h) (by exact (Sub.mem (by repeat (first | exact Sub.refl | apply Sub.cons)))) rfl (by exact Stab.load rfl (tysOk.get rfl) rfl (by repeat (first | exact Has.here | apply Has.there)) rfl) rfl rfl ?_); (refine TrA.take 7 (by kernel_rfl) rfl (by kernel_rfl) (by exact fun _ _ _ h => h) (by exact (Sub.mem (by repeat (first | exact Sub.refl | apply Sub.cons)))) rfl (by exact Stab.load rfl (tysOk.get rfl) rfl (by repeat (first | exact Has.here | apply Has.there)) rfl) rfl rfl ?_); (refine TrA.take 4 (by kernel_rfl) rfl (by kernel_rfl) (by exact fun _ _ _ h => h) (by exact (Sub.mem (by repeat (first | exact Sub.refl | apply Sub.cons)))) rfl (by exact Stab.shrc 8 (p := 256) rfl rfl rfl rfl) rfl rfl ?_); (refine TrA.take 8 (by kernel_rfl) rfl (by kernel_rfl) (by exact fun _ _ _ h => h) (by exact (Sub.mem (by repeat (first | exact Sub.refl | apply Sub.cons)))) rfl (by exact Stab.lowb rfl (tysOk.get rfl) (tysOk.get rfl) rfl rfl) rfl rfl ?_); (refine TrA.take 5 (by kernel_rfl) rfl (by kernel_rfl) (by exact fun _ _ _ h => h) (by exact (Sub.mem (by repeat (first | exact Sub.refl | apply Sub.cons)))) rfl (by exact Stab.lowb rfl (tysOk.get rfl) (tysOk.get rfl) rfl rfl) rfl rfl ?_); (refine TrA.take 9 (by kernel_rfl) rfl (by kernel_rfl) (by exact fun _ _ _ h => h) (by exact (Sub.mem (by repeat (first | exact Sub.refl | apply Sub.cons)))) rfl (by exact Stab.indexB0 rfl rfl (tysOk.get rfl) rfl (tysOk.get rfl) rfl (by omega) (by omega)) rfl rfl ?_); (refine TrA.eff 10 rfl (by kernel_rfl) (by exact .inl rfl) ?_); (((refine Knd.store ?_); ((refine Exec.store rfl rfl (tysOk.get rfl) rfl (by first | rfl | assumption) (by repeat (first | exact Upd.here | apply Upd.there)) (by repeat (first | exact SetL.z | apply SetL.s)) ?_)))); (refine ⟨(by first | exact Mem.le.refl _ | assumption), (by exact (Sub.mem (by repeat (first | exact Sub.refl | apply Sub.cons)))), ?_⟩); (refine TrA.take 11 (by kernel_rfl) rfl (by kernel_rfl) (by exact fun _ _ _ h => h) (by exact (Sub.mem (by repeat (first | exact Sub.refl | apply Sub.cons)))) rfl (by exact Stab.indexB0 rfl rfl (tysOk.get rfl) rfl (tysOk.get rfl) rfl (by omega) (by omega)) rfl rfl ?_); (refine TrA.eff 12 rfl (by kernel_rfl) (by exact .inl rfl) ?_); (((refine Knd.store ?_); ((refine Exec.store rfl rfl (tysOk.get rfl) rfl (by first | rfl | assumption) (by repeat (first | exact Upd.here | apply Upd.there)) (by repeat (first | exact SetL.z | apply SetL.s)) ?_)))); (refine ⟨(by first | exact Mem.le.refl _ | assumption), (by exact (Sub.mem (by repeat (first | exact Sub.refl | apply Sub.cons)))), ?_⟩); (refine TrA.done (by kernel_rfl) ?_))
  repeat (first | ((with_reducible refine Tr.step rfl ?_); (first | ((with_reducible refine Knd.move ?_); (refine Exec.stab rfl (Stab.move rfl) rfl ?_)) | ((with_reducible refine Knd.load ?_); ((refine Exec.stab rfl (Stab.load rfl (tysOk.get rfl) rfl (by repeat (first | exact Has.here | apply Has.there)) rfl) rfl ?_))) | ((with_reducible refine Knd.fieldAddr ?_); ((refine Exec.stab rfl (Stab.fieldZ rfl (tysOk.get rfl) rfl rfl (tysOk.get rfl) rfl) rfl ?_))) | ((with_reducible refine Knd.len ?_); ((refine Exec.stab rfl (Stab.len rfl (tysOk.get rfl) rfl) rfl ?_))) | ((with_reducible refine Knd.store ?_); ((refine Exec.store rfl rfl (tysOk.get rfl) rfl (by first | rfl | assumption) (by repeat (first | exact Upd.here | apply Upd.there)) (by repeat (first | exact SetL.z | apply SetL.s)) ?_))) | ((with_reducible refine Knd.indexAddr ?_); ((refine Exec.stab rfl (Stab.indexB0 rfl rfl (tysOk.get rfl) rfl (tysOk.get rfl) rfl (by omega) (by omega)) rfl ?_))) | ((with_reducible refine Knd.convert ?_); ((refine Exec.stab rfl (Stab.lowb rfl (tysOk.get rfl) (tysOk.get rfl) rfl rfl) rfl ?_))) | ((with_reducible refine Knd.slice ?_); ((refine Exec.stab rfl (Stab.slice_l rfl rfl (tysOk.get rfl) rfl (tysOk.get rfl) rfl (by omega) (by omega)) rfl ?_))))) | (with_reducible refine Tr.next ?_) | (with_reducible refine Tr.seq ?_) | (with_reducible refine Tr.region ?_) | (with_reducible refine Tr.nil ?_))
  generalize b = bs
  rw [slK bs (Int.toNat 128) (Int.toNat 12) (by decide)]
  refine Tr.cells (cs' := byteV (sec0 n f p)) (by repeat (first | exact Upd.here | apply Upd.there)) rfl ?_
  ((refine Tr.step rfl ?_))
  refine Exec.copy (b := bs) (off := 12) (dn := 116) (dc := 116) (m := p.length) (cs := byteV (sec0 n f p)) (t0 := 5) (news := byteV p) rfl rfl (tysOk.get rfl) rfl (tysOk.get rfl) rfl (Src.row_min h4) (by rw [byteV_length]; omega) (byteV_one p) (by rw [byteV_length, show (sec0 n f p).length = 128 from rfl]; omega) (by repeat (first | exact Upd.here | apply Upd.there)) rfl ?_
  refine Tr.cells (cs' := byteV (sec1 n f p)) (by repeat (first | exact Upd.here | apply Upd.there)) (patchV _ _ _ _ (sec_patch0 n f p hl)) ?_
  repeat (first | (with_reducible refine Tr.next ?_) | (with_reducible refine Tr.seq ?_) | (with_reducible refine Tr.nil ?_))
  (((apply Tr.draw ((box _ 84 _ :: _))); (kernel_rfl)); (refine TrA.take 0 (by kernel_rfl) rfl (by kernel_rfl) (by exact fun _ _ _ h => h) (by exact (Sub.mem (by repeat (first | exact Sub.refl | apply Sub.cons)))) rfl (by exact Stab.fieldZ rfl (tysOk.get rfl) rfl rfl (tysOk.get rfl) rfl) rfl rfl ?_); (refine TrA.take 3 (by kernel_rfl) rfl (by kernel_rfl) (by exact fun _ _ _ h => h) (by exact (Sub.mem (by repeat (first | exact Sub.refl | apply Sub.cons)))) rfl (by first | exact Stab.move rfl) rfl rfl ?_); (refine TrA.take 1 (by kernel_rfl) rfl (by kernel_rfl) (by exact fun _ _ _ h => h) (by exact (Sub.mem (by repeat (first | exact Sub.refl | apply Sub.cons)))) rfl (by exact Stab.load rfl (tysOk.get rfl) rfl (by repeat (first | exact Has.here | apply Has.there)) rfl) rfl rfl ?_); (refine TrA.take 4 (by kernel_rfl) rfl (by kernel_rfl) (by exact fun _ _ _ h => h) (by exact (Sub.mem (by repeat (first | exact Sub.refl | apply Sub.cons)))) rfl (by exact Stab.slice_lh rfl rfl rfl (tysOk.get rfl) rfl (tysOk.get rfl) rfl (by omega) (by omega) (by omega)) rfl rfl ?_))
  rw [slK bs (Int.toNat 128) (Int.toNat 8) (by decide)]
  ((refine TrM.start2 _ (by exact PA.alloc 8 rfl (tysOk.get rfl) rfl rfl) (by exact PA.alloc 9 rfl (tysOk.get rfl) rfl rfl) (by kernel_rfl) (by kernel_rfl) (by kernel_rfl) ?_); (refine TrM.eff 2 rfl (by kernel_rfl) (by exact .inl rfl) (by repeat (first | exact PendOk.nil | refine PendOk.cons rfl (by repeat (first | exact SubFr.nil | refine SubFr.cons rfl ?_)) ?_)) (by exact (Sub.mem (by repeat (first | exact Sub.refl | apply Sub.cons)))) (by repeat (first | apply AppF.cons | exact AppF.nil)) (by repeat (first | apply AppF.cons | exact AppF.app)) (fun Y X => ?_)))
  refine Exec.call0 rfl (write4_fn M g hg) rfl ?_
  rintro _ _ _ ⟨rfl, rfl⟩
  (refine ⟨_, _, (by repeat (first | apply App.cons | exact App.nil | exact App.app)), (by repeat (first | apply App.cons | exact App.nil | exact App.app)), rfl, (by first | exact Mem.le.refl _ | assumption), (by exact (Sub.mem (by repeat (first | exact Sub.refl | apply Sub.cons)))), ?_⟩)
  ((refine TrM.eff 5 rfl (by kernel_rfl) (by exact .inl rfl) (by repeat (first | exact PendOk.nil | refine PendOk.cons rfl (by repeat (first | exact SubFr.nil | refine SubFr.cons rfl ?_)) ?_)) (by exact (Sub.mem (by repeat (first | exact Sub.refl | apply Sub.cons)))) (by repeat (first | apply AppF.cons | exact AppF.nil)) (by repeat (first | apply AppF.cons | exact AppF.app)) (fun Y X => ?_)))
  refine Exec.call (A := [box bs 5 (byteV (sec1 n f p))]) rfl (checksum_lend M bs _ (sec1_length n f p hl)) (List.Perm.refl _) rfl ?_
  rintro _ _ _ - ⟨rfl, rfl, rfl⟩
  (refine ⟨_, _, (by repeat (first | apply App.cons | exact App.nil | exact App.app)), (by repeat (first | apply App.cons | exact App.nil | exact App.app)), rfl, (by first | exact Mem.le.refl _ | assumption), (by exact (Sub.mem (by repeat (first | exact Sub.refl | apply Sub.cons)))), ?_⟩)
  rw [sec1_body n f p hl]
  ((refine TrM.take 6 (by kernel_rfl) rfl (by kernel_rfl) (by exact fun _ _ _ h => h) (by exact (Sub.mem (by repeat (first | exact Sub.refl | apply Sub.cons)))) rfl (by exact Stab.convi rfl (tysOk.get rfl) (tysOk.get rfl) rfl rfl (by omega)) rfl rfl ?_); (refine TrM.eff 7 rfl (by kernel_rfl) (by exact .inl rfl) (by repeat (first | exact PendOk.nil | refine PendOk.cons rfl (by repeat (first | exact SubFr.nil | refine SubFr.cons rfl ?_)) ?_)) (by exact (Sub.mem (by repeat (first | exact Sub.refl | apply Sub.cons)))) (by repeat (first | apply AppF.cons | exact AppF.nil)) (by repeat (first | apply AppF.cons | exact AppF.app)) (fun Y X => ?_)))
  refine Exec.call0 rfl (write4_fn M _ lc) rfl ?_
  rintro _ _ _ ⟨rfl, rfl⟩
  (refine ⟨_, _, (by repeat (first | apply App.cons | exact App.nil | exact App.app)), (by repeat (first | apply App.cons | exact App.nil | exact App.app)), rfl, (by first | exact Mem.le.refl _ | assumption), (by exact (Sub.mem (by repeat (first | exact Sub.refl | apply Sub.cons)))), ?_⟩)
  ((refine TrM.land2 (by kernel_rfl) (by repeat (first | exact PendOk.nil | refine PendOk.cons rfl (by repeat (first | exact SubFr.nil | refine SubFr.cons rfl ?_)) ?_)) (by exact (Sub.mem (by repeat (first | exact Sub.refl | apply Sub.cons)))) ?_))
  intro q1 q2
  dsimp only
  ((refine TrA.eff 10 rfl (by kernel_rfl) (by exact .inl rfl) ?_); (((refine Knd.store ?_); ((refine Exec.storeW rfl rfl (tysOk.get rfl) (by repeat (first | exact Upd.here | apply Upd.there)) rfl rfl (by repeat (first | exact AllOne.nil | refine AllOne.cons (by first | rfl | assumption) ?_)) ?_)))); (refine ⟨(by first | exact Mem.le.refl _ | assumption), (by exact (Sub.mem (by repeat (first | exact Sub.refl | apply Sub.cons)))), ?_⟩); (refine TrA.eff 11 rfl (by kernel_rfl) (by exact .inl rfl) ?_); (((refine Knd.store ?_); ((refine Exec.storeW rfl rfl (tysOk.get rfl) (by repeat (first | exact Upd.here | apply Upd.there)) rfl rfl (by repeat (first | exact AllOne.nil | refine AllOne.cons (by first | rfl | assumption) ?_)) ?_)))); (refine ⟨(by first | exact Mem.le.refl _ | assumption), (by exact (Sub.mem (by repeat (first | exact Sub.refl | apply Sub.cons)))), ?_⟩); (refine TrA.done (by kernel_rfl) ?_))
  repeat (first | ((with_reducible refine Tr.step rfl ?_); (first | ((with_reducible refine Knd.move ?_); (refine Exec.stab rfl (Stab.move rfl) rfl ?_)) | ((with_reducible refine Knd.slice ?_); ((refine Exec.stab rfl (Stab.sliceArr rfl (tysOk.get rfl) rfl (tysOk.get rfl) rfl) rfl ?_))))) | (with_reducible refine Tr.next ?_) | (with_reducible refine Tr.seq ?_) | (with_reducible refine Tr.region ?_))
  ((refine Tr.step rfl ?_))
  refine Exec.copy (b := bs) (off := 0) (dn := 128) (dc := 128) (m := 4) (cs := byteV (sec1 n f p)) (t0 := 5) (news := byteV (be4 g)) rfl rfl (tysOk.get rfl) rfl (tysOk.get rfl) rfl (Src.box (by repeat (first | exact Has.here | apply Has.there))) rfl (byteV_one _) (by simp [sec1_length n f p hl]) (by repeat (first | exact Upd.here | apply Upd.there)) rfl ?_
  refine Tr.cells (cs' := byteV (sec2 g n f p)) (by repeat (first | exact Upd.here | apply Upd.there)) (patchV _ _ _ _ (sec_patch1 g n f p)) ?_
  repeat (first | (with_reducible refine Tr.next ?_) | (with_reducible refine Tr.seq ?_) | (with_reducible refine Tr.nil ?_))
  (((apply Tr.draw ((box _ 84 _ :: _))); (kernel_rfl)); (refine TrA.take 0 (by kernel_rfl) rfl (by kernel_rfl) (by exact fun _ _ _ h => h) (by exact (Sub.mem (by repeat (first | exact Sub.refl | apply Sub.cons)))) rfl (by first | exact Stab.move rfl) rfl rfl ?_); (refine TrA.take 2 (by kernel_rfl) rfl (by kernel_rfl) (by exact fun _ _ _ h => h) (by exact (Sub.mem (by repeat (first | exact Sub.refl | apply Sub.cons)))) rfl (by exact Stab.sliceArr rfl (tysOk.get rfl) rfl (tysOk.get rfl) rfl) rfl rfl ?_); (refine TrA.take 1 (by kernel_rfl) rfl (by kernel_rfl) (by exact fun _ _ _ h => h) (by exact (Sub.mem (by repeat (first | exact Sub.refl | apply Sub.cons)))) rfl (by exact Stab.slice_l rfl rfl (tysOk.get rfl) rfl (tysOk.get rfl) rfl (by omega) (by omega)) rfl rfl ?_))
  rw [slK bs (Int.toNat 128) (Int.toNat 4) (by decide)]
  ((refine TrA.eff 3 rfl (by kernel_rfl) (by exact .inl rfl) ?_))
  refine Exec.copy (b := bs) (off := 4) (dn := 124) (dc := 124) (m := 4) (cs := byteV (sec2 g n f p)) (t0 := 5) (news := byteV (be4 (crc (bodyF n f p)).toNat)) rfl rfl (tysOk.get rfl) rfl (tysOk.get rfl) rfl (Src.box (by repeat (first | exact Has.here | apply Has.there))) rfl (byteV_one _) (by simp [sec2, bodyF_length hl, be4_length]) (by repeat (first | exact Upd.here | apply Upd.there)) rfl ?_
  refine ⟨Mem.le.refl _, (by exact (Sub.mem (by repeat (first | exact Sub.refl | apply Sub.cons)))), ?_⟩
  ((refine TrA.done (by kernel_rfl) ?_))
  refine Tr.cells (cs' := byteV (sec3 g n f p)) (by repeat (first | exact Upd.here | apply Upd.there)) (patchV _ _ _ _ (sec_patch2 g n f p)) ?_
  repeat (first | (with_reducible refine Tr.next ?_) | (with_reducible refine Tr.seq ?_))
  (((apply Tr.draw ((box _ 84 _ :: _))); (kernel_rfl)); (refine TrA.take 0 (by kernel_rfl) rfl (by kernel_rfl) (by exact fun _ _ _ h => h) (by exact (Sub.mem (by repeat (first | exact Sub.refl | apply Sub.cons)))) rfl (by first | exact Stab.move rfl) rfl rfl ?_); (refine TrA.take 2 (by kernel_rfl) rfl (by kernel_rfl) (by exact fun _ _ _ h => h) (by exact (Sub.mem (by repeat (first | exact Sub.refl | apply Sub.cons)))) rfl (by exact Stab.sliceArr rfl (tysOk.get rfl) rfl (tysOk.get rfl) rfl) rfl rfl ?_); (refine TrA.take 1 (by kernel_rfl) rfl (by kernel_rfl) (by exact fun _ _ _ h => h) (by exact (Sub.mem (by repeat (first | exact Sub.refl | apply Sub.cons)))) rfl (by exact Stab.slice_l rfl rfl (tysOk.get rfl) rfl (tysOk.get rfl) rfl (by omega) (by omega)) rfl rfl ?_))
  rw [slK bs (Int.toNat 128) (Int.toNat 124) (by decide)]
  ((refine TrA.eff 3 rfl (by kernel_rfl) (by exact .inl rfl) ?_))
  refine Exec.copy (b := bs) (off := 124) (dn := 4) (dc := 4) (m := 4) (cs := byteV (sec3 g n f p)) (t0 := 5) (news := byteV (be4 g)) rfl rfl (tysOk.get rfl) rfl (tysOk.get rfl) rfl (Src.box (by repeat (first | exact Has.here | apply Has.there))) rfl (byteV_one _) (by simp [sec3, bodyF_length hl, be4_length]) (by repeat (first | exact Upd.here | apply Upd.there)) rfl ?_
  refine ⟨Mem.le.refl _, (by exact (Sub.mem (by repeat (first | exact Sub.refl | apply Sub.cons)))), ?_⟩
  ((refine TrA.done (by kernel_rfl) ?_))
  refine Tr.cells (cs' := byteV (bF g n f p)) (by repeat (first | exact Upd.here | apply Upd.there)) (patchV _ _ _ _ (sec_patch3 g n f p hl)) ?_
  repeat (first | ((with_reducible refine Tr.step rfl ?_); (first | ((with_reducible refine Knd.move ?_); (refine Exec.stab rfl (Stab.move rfl) rfl ?_)) | ((with_reducible refine Knd.assign ?_); (refine Exec.stab rfl (Stab.assign rfl) rfl ?_)))) | (with_reducible refine Tr.next ?_) | (with_reducible refine Tr.seq ?_) | (with_reducible refine Tr.region ?_) | (with_reducible refine Tr.nil ?_) | (with_reducible refine Tr.ret ?_))
  refine Tr.publish (r := box bs 5 _) (by repeat (first | exact Del.here | apply Del.there)) (fun M' hm hok => ?_)
  have hf := BSl.ofBox hok (by rw [bF_length hl]; omega)
  rw [bF_length hl] at hf
  (refine Tr.done (by first | exact .inl rfl | exact .inr rfl) rfl (by repeat (first | exact RVs.nil | (apply RVs.cons; (exact RV.tmp rfl)))) (by first | exact Mem.le.refl _ | assumption) (by exact ⟨[_, _, _], rfl⟩) ⟨rfl, ?_⟩)
  exact ⟨_, _, rfl, hf⟩
end Go.Proofs.Ytkbggengagockaa
/-
  The journal: the specification's generation, numeral and Sector.
  Conditions: none.
-/
namespace Go.Proofs.Ytkbggengagockaa
open Go Bf
attribute [local irreducible] Tr Exec Stab HasTy Go.Addr.add IntKind.wrap
set_option maxHeartbeats 2000000 in
theorem rgen_fn (M : Mem) (A : Option Addr) (c : Nat) (l : List (List UInt8)) (h : SlOf 1 RSec M (.slice A l.length c) l) (h128 : ∀ s ∈ l, s.length = 128) :
    Fn0 Try.prog 46 [.slice A l.length c] M (fun r M' => r = .int .u64 (((gmax l + 1 : Nat)) : Int) ∧ M = M') := by
  have l1 := h.len_le
  have hlast := gmax_lt l h128
  refine Fn.intro Try.func46 rfl rfl Try.ntmps46 rfl fun E F => ?_
  repeat (first | ((with_reducible refine Tr.step rfl ?_); (((with_reducible refine Knd.assign ?_); (refine Exec.stab rfl (Stab.assign rfl) rfl ?_)))) | (with_reducible refine Tr.next ?_) | (with_reducible refine Tr.seq ?_) | (with_reducible refine Tr.region ?_) | (with_reducible refine Tr.nil ?_) | (with_reducible refine Tr.block ?_))
  refine Tr.loop (α := Nat) (fun i => ⟨27, [(4, .int .i64 i), (3, .int .u64 ((gmax (l.take i) : Nat) : Int)), (0, .slice A l.length c)], [], M, [] ++ F⟩) (fun i => i ≤ l.length) (fun i => l.length - i) 0 (Nat.zero_le _) (holds_sub (by repeat (first | exact SubFr.nil | refine SubFr.cons rfl ?_)) (by repeat (first | exact DropL.refl | apply DropL.skip))) (fun i hi => ?_)
  by_cases hlt : i < l.length
  · obtain ⟨x, hx⟩ := get_of_lt hlt
    have hxl := h128 x (List.mem_of_getElem? hx)
    obtain ⟨hA, ch, hat, A1, k1, rfl, hb⟩ := h.elem hx
    rw [hxl] at hat hb
    have hst := gmax_take hx
    have hc := hb.cap
    have p0 : BSl M (.slice A1 4 k1) (x.take 4) := hb.pre (by omega) (by omega) (by omega)
    have ht : BSl M _ ((x.drop 124).take (128 - 124)) := hb.sub (l := 124) (k := 128) (m := k1) (by omega) (by omega) (by omega) (by omega)
    rw [show (x.drop 124).take (128 - 124) = x.drop 124 from List.take_of_length_le (by simp; omega)] at ht
    have n0 := rnumber_fn M _ _ _ _ p0 (by rw [List.length_take]; omega)
    have n1 := rnumber_fn M _ _ _ _ ht (by simp; omega)
    repeat (first | ((with_reducible refine Tr.step rfl ?_); (first | ((with_reducible refine Knd.move ?_); (refine Exec.stab rfl (Stab.move rfl) rfl ?_)) | ((with_reducible refine Knd.len ?_); ((refine Exec.stab rfl (Stab.len rfl (tysOk.get rfl) rfl) rfl ?_))) | ((with_reducible refine Knd.binOp ?_); ((refine Exec.stab rfl (Stab.int rfl rfl rfl) rfl ?_))))) | (with_reducible refine Tr.next ?_) | (with_reducible refine Tr.seq ?_) | (with_reducible refine Tr.region ?_) | (with_reducible refine Tr.nil ?_) | (with_reducible refine Tr.skip ?_) | (with_reducible refine Tr.block ?_) | (refine Tr.cond_t rfl (by first | (with_reducible assumption) | omega) ?_))
    (((apply Tr.draw); (kernel_rfl)); (refine TrA.take 0 (by kernel_rfl) rfl (by kernel_rfl) (by exact fun _ _ _ h => h) (by exact fun _ h => h) rfl (by first | exact Stab.move rfl) rfl rfl ?_); (refine TrA.take 1 (by kernel_rfl) rfl (by kernel_rfl) (by exact fun _ _ _ h => h) (by exact fun _ h => h) rfl (by first | exact Stab.move rfl) rfl rfl ?_); (refine TrA.take 2 (by kernel_rfl) rfl (by kernel_rfl) (by exact fun _ _ _ h => h) (by exact fun _ h => h) rfl (by first | exact Stab.move rfl) rfl rfl ?_); (refine TrA.take 7 (by kernel_rfl) rfl (by kernel_rfl) (by exact fun _ _ _ h => h) (by exact fun _ h => h) rfl (by first | exact Stab.move rfl) rfl rfl ?_); (refine TrA.take 8 (by kernel_rfl) rfl (by kernel_rfl) (by exact fun _ _ _ h => h) (by exact fun _ h => h) rfl (by first | exact Stab.move rfl) rfl rfl ?_); (refine TrA.take 3 (by kernel_rfl) rfl (by kernel_rfl) (by exact fun _ _ _ h => h) (by exact fun _ h => h) rfl (by exact Stab.indexAddr rfl rfl (tysOk.get rfl) rfl (tysOk.get rfl) rfl (by omega) (by omega) (by first | rfl | assumption)) rfl rfl ?_); (refine TrA.take 9 (by kernel_rfl) rfl (by kernel_rfl) (by exact fun _ _ _ h => h) (by exact fun _ h => h) rfl (by exact Stab.indexAddr rfl rfl (tysOk.get rfl) rfl (tysOk.get rfl) rfl (by omega) (by omega) (by first | rfl | assumption)) rfl rfl ?_); (refine TrA.take 4 (by kernel_rfl) rfl (by kernel_rfl) (by exact fun _ _ _ h => h) (by exact fun _ h => h) rfl (by exact Stab.loadM rfl (tysOk.get rfl) rfl (by assumption)) rfl rfl ?_); (refine TrA.take 10 (by kernel_rfl) rfl (by kernel_rfl) (by exact fun _ _ _ h => h) (by exact fun _ h => h) rfl (by exact Stab.loadM rfl (tysOk.get rfl) rfl (by assumption)) rfl rfl ?_); (refine TrA.take 5 (by kernel_rfl) rfl (by kernel_rfl) (by exact fun _ _ _ h => h) (by exact fun _ h => h) rfl (by exact Stab.slice_h rfl rfl (tysOk.get rfl) rfl (tysOk.get rfl) (by omega) (by omega)) rfl rfl ?_); (refine TrA.take 11 (by kernel_rfl) rfl (by kernel_rfl) (by exact fun _ _ _ h => h) (by exact fun _ h => h) rfl (by exact Stab.slice_l rfl rfl (tysOk.get rfl) rfl (tysOk.get rfl) rfl (by omega) (by omega)) rfl rfl ?_); (refine TrA.eff 6 rfl (by kernel_rfl) (by exact .inl rfl) ?_))
    refine Exec.call0 rfl n0 rfl ?_
    rintro _ _ _ ⟨rfl, rfl⟩
    refine ⟨Mem.le.refl _, (by exact fun _ h => h), ?_⟩
    ((refine TrA.eff 12 rfl (by kernel_rfl) (by exact .inl rfl) ?_))
    refine Exec.call0 rfl n1 rfl ?_
    rintro _ _ _ ⟨rfl, rfl⟩
    refine ⟨Mem.le.refl _, (by exact fun _ h => h), ?_⟩
    ((refine TrA.take 13 (by kernel_rfl) rfl (by kernel_rfl) (by exact fun _ _ _ h => h) (by exact fun _ h => h) rfl (by first | exact Stab.max3 rfl rfl rfl) rfl rfl ?_); (refine TrA.take 14 (by kernel_rfl) rfl (by kernel_rfl) (by exact fun _ _ _ h => h) (by exact fun _ h => h) rfl (by first | exact Stab.assign rfl) rfl rfl ?_); (refine TrA.done (by kernel_rfl) ?_))
    have e : max (max ((gmax (l.take i) : Nat) : Int) ((be (x.take 4) : Nat) : Int)) ((be (x.drop 124) : Nat) : Int) = ((gmax (l.take (i + 1)) : Nat) : Int) := by
      rw [hst, show gen x = be (x.take 4) from rfl]
      omega
    rw [e]
    repeat (first | ((with_reducible refine Tr.step rfl ?_); (first | ((with_reducible refine Knd.move ?_); (refine Exec.stab rfl (Stab.move rfl) rfl ?_)) | ((with_reducible refine Knd.assign ?_); (refine Exec.stab rfl (Stab.assign rfl) rfl ?_)) | ((with_reducible refine Knd.binOp ?_); ((refine Exec.stab rfl (Stab.addi rfl rfl (by omega)) rfl ?_))))) | (with_reducible refine Tr.next ?_) | (with_reducible refine Tr.region ?_) | (with_reducible refine Tr.nil ?_) | (with_reducible refine Tr.in_normal ?_))
    refine Tr.again (i + 1) (by omega) (by omega) (holds_sub (by repeat (first | exact SubFr.nil | refine SubFr.cons rfl ?_)) (by repeat (first | exact DropL.refl | apply DropL.skip)))
  · have e : i = l.length := by omega
    subst e
    rw [List.take_length]
    repeat (first | ((with_reducible refine Tr.step rfl ?_); (first | ((with_reducible refine Knd.move ?_); (refine Exec.stab rfl (Stab.move rfl) rfl ?_)) | ((with_reducible refine Knd.assign ?_); (refine Exec.stab rfl (Stab.assign rfl) rfl ?_)) | ((with_reducible refine Knd.len ?_); ((refine Exec.stab rfl (Stab.len rfl (tysOk.get rfl) rfl) rfl ?_))) | ((with_reducible refine Knd.binOp ?_); (first | (refine Exec.stab rfl (Stab.addu64 rfl rfl (by omega)) rfl ?_) | (refine Exec.stab rfl (Stab.int rfl rfl rfl) rfl ?_))))) | (with_reducible refine Tr.next ?_) | (with_reducible refine Tr.seq ?_) | (with_reducible refine Tr.region ?_) | (with_reducible refine Tr.nil ?_) | (with_reducible refine Tr.exit ?_) | (with_reducible refine Tr.ret ?_) | (with_reducible refine Tr.then_exit ?_) | ((with_reducible refine Tr.in_exit ?_ ?_); (exact rfl)) | (refine Tr.cond_f rfl (by first | (with_reducible assumption) | omega) ?_))
    (refine Tr.done (by first | exact .inl rfl | exact .inr rfl) rfl (by repeat (first | exact RVs.nil | (apply RVs.cons; (exact RV.tmp rfl)))) (by first | exact Mem.le.refl _ | assumption) (by exact ⟨[], rfl⟩) ⟨rfl, ?_⟩)
    exact ⟨rfl, rfl⟩
/-- the last bytes of a number -/
def numL : Nat → Nat → List UInt8
  | 0, _ => []
  | k + 1, n => numL k (n / 256) ++ [UInt8.ofNat n]
theorem numL_length : ∀ (k n : Nat), (numL k n).length = k
  | 0, _ => rfl
  | k + 1, n => by rw [numL, List.length_append, numL_length k]; rfl
theorem numL_2 (n : Nat) : numL 2 n = [UInt8.ofNat (n / 256), UInt8.ofNat n] := rfl
theorem numL_4 (n : Nat) : numL 4 n = be4 n := by
  simp only [numL, be4, Nat.div_div_eq_div_mul, List.nil_append, List.cons_append]
set_option maxHeartbeats 2000000 in
theorem numeral_own (M : Mem) (n k : Nat) (hn : n ≤ 18446744073709551615) (hk0 : 0 < k) (hk : k ≤ 8) :
    Bf.Fn Try.prog 63 [.int .u64 (n : Int), .int .i64 (k : Int)] M [] (fun r M' A' => M = M' ∧ ∃ q, r = .slice (some ⟨q, 0, none⟩) k k ∧ A' = [box q 5 (byteV (numL k n))]) := by
  refine Fn.intro Try.func63 rfl rfl Try.ntmps63 rfl fun E F => ?_
  repeat (first | ((with_reducible refine Tr.step rfl ?_); (first | ((with_reducible refine Knd.move ?_); (refine Exec.stab rfl (Stab.move rfl) rfl ?_)) | ((with_reducible refine Knd.assign ?_); (refine Exec.stab rfl (Stab.assign rfl) rfl ?_)) | ((with_reducible refine Knd.binOp ?_); ((refine Exec.stab rfl (Stab.subi rfl rfl (by omega)) rfl ?_))) | ((with_reducible refine Knd.makeSlice ?_); (refine Exec.make rfl rfl (tysOk.get rfl) rfl (tysOk.get rfl) rfl rfl rfl (by omega) (by omega) (by first | omega | (simp; done) | (simp; omega)) (by omega) rfl (fun b => ?_))))) | (with_reducible refine Tr.next ?_) | (with_reducible refine Tr.seq ?_) | (with_reducible refine Tr.region ?_) | (with_reducible refine Tr.nil ?_) | (with_reducible refine Tr.block ?_))
  generalize b = q
  refine Tr.loop (α := Nat × Nat × List UInt8) (fun y => ⟨24, [(6, .int .i64 ((y.1 : Int) - 1)), (5, .slice (some ⟨q, 0, none⟩) k k), (0, .int .u64 (y.2.1 : Int))], [], M, box q 5 (byteV (List.replicate y.1 0 ++ y.2.2)) :: ([] ++ F)⟩)
    (fun y => y.1 ≤ k ∧ y.2.1 ≤ 18446744073709551615 ∧ y.2.2.length + y.1 = k ∧ numL y.1 y.2.1 ++ y.2.2 = numL k n) (fun y => y.1) (k, n, []) ⟨Nat.le_refl _, hn, by simp, by simp⟩ ?_ (fun y hy => ?_)
  · simp only [List.append_nil, ← byteV_replicate]
    exact (holds_sub (by repeat (first | exact SubFr.nil | refine SubFr.cons rfl ?_)) (by repeat (first | exact DropL.refl | apply DropL.skip)))
  obtain ⟨i, m, t⟩ := y
  obtain ⟨hi, hm, ht, he⟩ := hy
  simp only at hi hm ht he
  dsimp only
  cases i with
  | zero =>
    rw [numL, List.nil_append] at he
    subst he
    repeat (first | ((with_reducible refine Tr.step rfl ?_); (first | ((with_reducible refine Knd.move ?_); (refine Exec.stab rfl (Stab.move rfl) rfl ?_)) | ((with_reducible refine Knd.assign ?_); (refine Exec.stab rfl (Stab.assign rfl) rfl ?_)) | ((with_reducible refine Knd.binOp ?_); ((refine Exec.stab rfl (Stab.int rfl rfl rfl) rfl ?_))))) | (with_reducible refine Tr.next ?_) | (with_reducible refine Tr.seq ?_) | (with_reducible refine Tr.region ?_) | (with_reducible refine Tr.nil ?_) | (with_reducible refine Tr.exit ?_) | (with_reducible refine Tr.ret ?_) | (with_reducible refine Tr.then_exit ?_) | ((with_reducible refine Tr.in_exit ?_ ?_); (exact rfl)) | (refine Tr.cond_f rfl (by omega) ?_))
    refine Tr.doneA (A' := [box q 5 (byteV (numL k n))]) (by first | exact .inl rfl | exact .inr rfl) rfl (by repeat (first | exact RVs.nil | (apply RVs.cons; (exact RV.tmp rfl)))) (Mem.le.refl _) ⟨fun _ h => h, fun h => h⟩ ⟨rfl, q, rfl, rfl⟩
  | succ i =>
    have e1 : ((i + 1 : Nat) : Int) - 1 = (i : Int) := by omega
    rw [e1]
    have hlen : (byteV (List.replicate (i + 1) 0 ++ t)).length = k := by simp; omega
    have hd : (m : Int) / 256 = ((m / 256 : Nat) : Int) := by omega
    have hr : (m : Int) % 256 = ((UInt8.ofNat m).toNat : Int) := by rw [UInt8.toNat_ofNat']; omega
    have hset : (byteV (List.replicate (i + 1) 0 ++ t)).set i (.int .u8 ((UInt8.ofNat m).toNat : Int)) = byteV (List.replicate i 0 ++ (UInt8.ofNat m :: t)) := by
      rw [byteV_set, List.set_append_left _ _ (by simp), List.replicate_succ', List.set_append_right _ _ (by simp)]
      simp
    repeat (first | ((with_reducible refine Tr.step rfl ?_); (first | ((with_reducible refine Knd.move ?_); (refine Exec.stab rfl (Stab.move rfl) rfl ?_)) | ((with_reducible refine Knd.assign ?_); (refine Exec.stab rfl (Stab.assign rfl) rfl ?_)) | ((with_reducible refine Knd.binOp ?_); (first | (refine Exec.stab rfl (Stab.subi rfl rfl (by omega)) rfl ?_) | (refine Exec.stab rfl (Stab.int rfl rfl rfl) rfl ?_) | (refine Exec.stab rfl (Stab.remp rfl rfl (by omega) (by omega)) rfl ?_) | (refine Exec.stab rfl (Stab.quou64 rfl rfl (by omega) (by omega) (by omega)) rfl ?_))) | ((with_reducible refine Knd.store ?_); ((refine Exec.storeS rfl rfl (tysOk.get rfl) rfl (by first | rfl | assumption) (by repeat (first | exact Upd.here | apply Upd.there)) (by omega) ?_))) | ((with_reducible refine Knd.indexAddr ?_); ((refine Exec.stab rfl (Stab.indexB0 rfl rfl (tysOk.get rfl) rfl (tysOk.get rfl) rfl (by omega) (by omega)) rfl ?_))) | ((with_reducible refine Knd.convert ?_); ((refine Exec.stab rfl (Stab.convu8 rfl (tysOk.get rfl) (tysOk.get rfl) rfl rfl (by omega)) rfl ?_))))) | (with_reducible refine Tr.next ?_) | (with_reducible refine Tr.seq ?_) | (with_reducible refine Tr.region ?_) | (with_reducible refine Tr.nil ?_) | (with_reducible refine Tr.skip ?_) | (with_reducible refine Tr.block ?_) | (with_reducible refine Tr.in_normal ?_) | (refine Tr.cond_t rfl (by first | (with_reducible assumption) | omega) ?_))
    rw [hr, Int.toNat_natCast i, hset, hd]
    refine Tr.again (i, m / 256, UInt8.ofNat m :: t) ⟨by simp only; omega, by simp only; omega, by simp only [List.length_cons]; omega, ?_⟩ (by simp only; omega) (holds_sub (by repeat (first | exact SubFr.nil | refine SubFr.cons rfl ?_)) (by repeat (first | exact DropL.refl | apply DropL.skip)))
    simp only
    rw [← he, numL, List.append_assoc]
    rfl
end Go.Proofs.Ytkbggengagockaa
