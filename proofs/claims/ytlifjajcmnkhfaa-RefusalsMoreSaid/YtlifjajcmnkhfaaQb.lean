/-
  Texts of the proof, one after the other.
  Conditions: none.
-/
import Derived.Test.YtlifjajcmnkhfaaQBfOwnN
import Derived.Test.YtlifjajcmnkhfaaQBfPan
import Derived.Test.YtlifjajcmnkhfaaQBfMap
import Derived.Test.YtlifjajcmnkhfaaQBfBuild
import Derived.Test.YtlifjajcmnkhfaaQBfInj
import Derived.Test.YtlifjajcmnkhfaaQBfPend
import Derived.Test.YtlifjajcmnkhfaaQBfRec
import Derived.Test.YtlifjajcmnkhfaaQBfTake
import Derived.Test.YtlifjajcmnkhfaaQXs
import Derived.Test.YtlifjajcmnkhfaaQa
/-
  Classes: the contracts of what says whether one supply fits one request.
  Conditions: none.
-/
namespace Go.Proofs.Ytlifjajcmnkhfaa
open Go Bf
attribute [local irreducible] Tr Exec Stab HasTy Go.Addr.add IntKind.wrap
def spC (s : Sp) : List Value := [.int .i64 s.no, .int .i64 s.item, .int .i64 s.plant, .int .i64 s.ready, .int .i64 s.expiry, .int .i64 s.amount]
def rqC (r : Rq) : List Value := [.int .i64 r.no, .int .i64 r.item, .int .i64 r.cust, .int .i64 r.due, .int .i64 r.shelf, .int .i64 r.amount]
/-- a supply, and a request, in memory -/
def RSpC (_ : Mem) (c : List Value) (s : Sp) : Prop := c = spC s
def RRqC (_ : Mem) (c : List Value) (r : Rq) : Prop := c = rqC r
theorem RSpC.mono (M M' : Mem) (c : List Value) (f : Sp) (_ : Mem.le M M') (h : RSpC M c f) : RSpC M' c f := h
theorem RRqC.mono (M M' : Mem) (c : List Value) (f : Rq) (_ : Mem.le M M') (h : RRqC M c f) : RRqC M' c f := h
def RSw (_ : Mem) (c : List Value) (p : Int × Int) : Prop := ∃ s1 s2 : ByteArray, c = [.string s1, .string s2, .int .i64 p.1, .int .i64 p.2]
theorem RSw.mono (M M' : Mem) (c : List Value) (f : Int × Int) (_ : Mem.le M M') (h : RSw M c f) : RSw M' c f := h
/-- a world in memory: its cells -/
structure RWd (M : Mem) (ws : List Value) (w : Wd) : Prop where
  len : ws.length = 11
  one : AllOne ws
  sw : ∃ A c, nthL ws 7 = some (.slice A w.swaps.length c) ∧ SlOf 4 RSw M (.slice A w.swaps.length c) w.swaps
  fa : ∃ A c, nthL ws 10 = some (.slice A w.facts.length c) ∧ SlOf 8 RFc M (.slice A w.facts.length c) w.facts
theorem RWd.mono {M M' : Mem} {ws : List Value} {w : Wd} (h : RWd M ws w) (hm : Mem.le M M') : RWd M' ws w := by
  obtain ⟨h1, h2, ⟨A, c, h3, h4⟩, B, k, h5, h6⟩ := h
  exact ⟨h1, h2, ⟨A, c, h3, h4.mono RSw.mono hm⟩, B, k, h5, h6.mono RFc.mono hm⟩
theorem cbetween_fn (M : Mem) (n lo hi : Int) : Fn0 Try.prog 73 [.int .i64 n, .int .i64 lo, .int .i64 hi] M (fun r M' => r = .bool (decide (lo ≤ n ∧ n ≤ hi)) ∧ M = M') := by
  refine Fn.intro Try.func73 rfl rfl Try.ntmps73 rfl fun E F => ?_
  by_cases h1 : lo ≤ n
  · (repeat (first | ((with_reducible refine Tr.step rfl ?_); (first | (refine xmQ (z := ?_)) | (refine xaQ (z := ?_)) | (refine xiQ (z := ?_)) | ((with_reducible refine Knd.pick ?_); (refine Exec.stab rfl (Stab.pick_td rfl (by first | (with_reducible assumption) | (with_reducible rfl) | (with_reducible exact (not_not_intro rfl)) | omega) rfl) rfl ?_)))) | (with_reducible first | apply Tr.next | apply Tr.seq | apply Tr.region | apply Tr.nil) | ((refine Tr.guard_y rfl rfl rfl (by first | (with_reducible assumption) | (with_reducible rfl) | (with_reducible exact (not_not_intro rfl)) | omega) ?_); (first | (refine xmQ (z := ?_)) | (refine xiQ (z := ?_)))) | (with_reducible refine Tr.ret ?_)))
    (refine dnQ (hL := by exact ⟨[], rfl⟩) (k := ⟨rfl, ?_⟩))
    refine ⟨?_, rfl⟩
    rw [show decide (lo ≤ n ∧ n ≤ hi) = decide (n ≤ hi) from decide_eq_decide.2 ⟨fun h => h.2, fun h => ⟨h1, h⟩⟩]
    rfl
  · (repeat (first | ((with_reducible refine Tr.step rfl ?_); (first | (refine xmQ (z := ?_)) | (refine xaQ (z := ?_)) | (refine xiQ (z := ?_)) | ((with_reducible refine Knd.pick ?_); (refine Exec.stab rfl (Stab.pick_fd rfl (by first | (with_reducible assumption) | (with_reducible rfl) | (with_reducible exact (not_not_intro rfl)) | omega) rfl) rfl ?_)))) | (with_reducible first | apply Tr.next | apply Tr.seq | apply Tr.region | apply Tr.nil) | (refine Tr.guard_n rfl rfl rfl (by first | (with_reducible assumption) | (with_reducible rfl) | (with_reducible exact (not_not_intro rfl)) | omega) rfl rfl ?_) | (with_reducible refine Tr.ret ?_)))
    (refine dnQ (hL := by exact ⟨[], rfl⟩) (k := ⟨rfl, ?_⟩))
    refine ⟨?_, rfl⟩
    rw [show decide (lo ≤ n ∧ n ≤ hi) = false from decide_eq_false (fun h => h1 h.1)]
    rfl
set_option maxHeartbeats 4000000 in
theorem validSupply_fn (M : Mem) (s : Sp) : Fn0 Try.prog 41 [.agg #[.int .i64 s.no, .int .i64 s.item, .int .i64 s.plant, .int .i64 s.ready, .int .i64 s.expiry, .int .i64 s.amount]] M (fun x M' => x = .bool (decide (okSp s)) ∧ M = M') := by
  refine Fn.intro Try.func41 rfl rfl Try.ntmps41 rfl fun E F => ?_
  (repeat (first | ((with_reducible refine Tr.step rfl ?_); (first | (refine xaQ (z := ?_)) | (refine xlQ (z := ?_)) | (refine xfQ (z := ?_)) | ((with_reducible refine Knd.box ?_); (refine Exec.box rfl rfl (fun b => ?_))))) | (with_reducible first | apply Tr.next | apply Tr.seq | apply Tr.region | apply Tr.nil)))
  ((refine Tr.step rfl ?_)); refine Exec.call0 rfl (cbetween_fn M s.no 0 1023) rfl ?_
  rintro _ _ _ ⟨rfl, rfl⟩
  by_cases h0 : 0 ≤ s.no ∧ s.no ≤ 1023
  rotate_left
  · rw [show decide (0 ≤ s.no ∧ s.no ≤ 1023) = false from decide_eq_false h0]
    (repeat (first | ((with_reducible refine Tr.step rfl ?_); (first | (refine xmQ (z := ?_)) | (refine xaQ (z := ?_)) | ((with_reducible refine Knd.pick ?_); (refine Exec.stab rfl (Stab.pick_f rfl (by first | (with_reducible rfl) | (with_reducible assumption) | (with_reducible exact Bool.not_true) | (with_reducible exact Bool.not_false)) rfl) rfl ?_)))) | (with_reducible first | apply Tr.next | apply Tr.nil) | (refine Tr.guard_s1 rfl rfl rfl (by first | (with_reducible rfl) | (with_reducible assumption) | (with_reducible exact Bool.not_true) | (with_reducible exact Bool.not_false)) rfl rfl ?_) | (with_reducible refine Tr.ret ?_)))
    (refine dnQ (hL := by exact ⟨[_], rfl⟩) (k := ⟨rfl, ?_⟩))
    exact ⟨by rw [decide_eq_false (fun h => h0 h.1)]; rfl, rfl⟩
  rw [show decide (0 ≤ s.no ∧ s.no ≤ 1023) = true from decide_eq_true h0]
  (repeat (first | ((with_reducible refine Tr.step rfl ?_); (with_reducible refine Knd.move ?_); (refine xmQ (z := ?_))) | ((refine Tr.guard_l rfl rfl rfl (by first | (with_reducible rfl) | (with_reducible assumption) | (with_reducible exact Bool.not_true) | (with_reducible exact Bool.not_false)) ?_); (first | (refine xlQ (z := ?_)) | (refine xfQ (z := ?_))))))
  ((refine Tr.guard_l rfl rfl rfl (by first | (with_reducible rfl) | (with_reducible assumption) | (with_reducible exact Bool.not_true) | (with_reducible exact Bool.not_false)) ?_)); refine Exec.call0 rfl (cbetween_fn M s.item 0 31) rfl ?_
  rintro _ _ _ ⟨rfl, rfl⟩
  by_cases h1 : 0 ≤ s.item ∧ s.item ≤ 31
  rotate_left
  · rw [show decide (0 ≤ s.item ∧ s.item ≤ 31) = false from decide_eq_false h1]
    (repeat (first | ((with_reducible refine Tr.step rfl ?_); (first | (refine xmQ (z := ?_)) | (refine xaQ (z := ?_)) | ((with_reducible refine Knd.pick ?_); (first | (refine Exec.stab rfl (Stab.pick_t rfl (by first | (with_reducible rfl) | (with_reducible assumption) | (with_reducible exact Bool.not_true) | (with_reducible exact Bool.not_false)) rfl) rfl ?_) | (refine Exec.stab rfl (Stab.pick_f rfl (by first | (with_reducible rfl) | (with_reducible assumption) | (with_reducible exact Bool.not_true) | (with_reducible exact Bool.not_false)) rfl) rfl ?_))))) | (with_reducible first | apply Tr.next | apply Tr.nil) | (refine Tr.guard_s1 rfl rfl rfl (by first | (with_reducible rfl) | (with_reducible assumption) | (with_reducible exact Bool.not_true) | (with_reducible exact Bool.not_false)) rfl rfl ?_) | (with_reducible refine Tr.ret ?_)))
    (refine dnQ (hL := by exact ⟨[_], rfl⟩) (k := ⟨rfl, ?_⟩))
    exact ⟨by rw [decide_eq_false (fun h => h1 h.2.1)]; rfl, rfl⟩
  rw [show decide (0 ≤ s.item ∧ s.item ≤ 31) = true from decide_eq_true h1]
  (repeat (first | ((with_reducible refine Tr.step rfl ?_); (first | (refine xmQ (z := ?_)) | ((with_reducible refine Knd.pick ?_); (refine Exec.stab rfl (Stab.pick_t rfl (by first | (with_reducible rfl) | (with_reducible assumption) | (with_reducible exact Bool.not_true) | (with_reducible exact Bool.not_false)) rfl) rfl ?_)))) | ((refine Tr.guard_l rfl rfl rfl (by first | (with_reducible rfl) | (with_reducible assumption) | (with_reducible exact Bool.not_true) | (with_reducible exact Bool.not_false)) ?_); (first | (refine xlQ (z := ?_)) | (refine xfQ (z := ?_))))))
  ((refine Tr.guard_l rfl rfl rfl (by first | (with_reducible rfl) | (with_reducible assumption) | (with_reducible exact Bool.not_true) | (with_reducible exact Bool.not_false)) ?_)); refine Exec.call0 rfl (cbetween_fn M s.plant 0 7) rfl ?_
  rintro _ _ _ ⟨rfl, rfl⟩
  by_cases h2 : 0 ≤ s.plant ∧ s.plant ≤ 7
  rotate_left
  · rw [show decide (0 ≤ s.plant ∧ s.plant ≤ 7) = false from decide_eq_false h2]
    (repeat (first | ((with_reducible refine Tr.step rfl ?_); (first | (refine xmQ (z := ?_)) | (refine xaQ (z := ?_)) | ((with_reducible refine Knd.pick ?_); (first | (refine Exec.stab rfl (Stab.pick_t rfl (by first | (with_reducible rfl) | (with_reducible assumption) | (with_reducible exact Bool.not_true) | (with_reducible exact Bool.not_false)) rfl) rfl ?_) | (refine Exec.stab rfl (Stab.pick_f rfl (by first | (with_reducible rfl) | (with_reducible assumption) | (with_reducible exact Bool.not_true) | (with_reducible exact Bool.not_false)) rfl) rfl ?_))))) | (with_reducible first | apply Tr.next | apply Tr.nil) | (refine Tr.guard_s1 rfl rfl rfl (by first | (with_reducible rfl) | (with_reducible assumption) | (with_reducible exact Bool.not_true) | (with_reducible exact Bool.not_false)) rfl rfl ?_) | (with_reducible refine Tr.ret ?_)))
    (refine dnQ (hL := by exact ⟨[_], rfl⟩) (k := ⟨rfl, ?_⟩))
    exact ⟨by rw [decide_eq_false (fun h => h2 h.2.2.1)]; rfl, rfl⟩
  rw [show decide (0 ≤ s.plant ∧ s.plant ≤ 7) = true from decide_eq_true h2]
  (repeat (first | ((with_reducible refine Tr.step rfl ?_); (first | (refine xmQ (z := ?_)) | ((with_reducible refine Knd.pick ?_); (refine Exec.stab rfl (Stab.pick_t rfl (by first | (with_reducible rfl) | (with_reducible assumption) | (with_reducible exact Bool.not_true) | (with_reducible exact Bool.not_false)) rfl) rfl ?_)))) | ((refine Tr.guard_l rfl rfl rfl (by first | (with_reducible rfl) | (with_reducible assumption) | (with_reducible exact Bool.not_true) | (with_reducible exact Bool.not_false)) ?_); (first | (refine xlQ (z := ?_)) | (refine xfQ (z := ?_))))))
  ((refine Tr.guard_l rfl rfl rfl (by first | (with_reducible rfl) | (with_reducible assumption) | (with_reducible exact Bool.not_true) | (with_reducible exact Bool.not_false)) ?_)); refine Exec.call0 rfl (cbetween_fn M s.ready 0 1024) rfl ?_
  rintro _ _ _ ⟨rfl, rfl⟩
  by_cases h3 : 0 ≤ s.ready ∧ s.ready ≤ 1024
  rotate_left
  · rw [show decide (0 ≤ s.ready ∧ s.ready ≤ 1024) = false from decide_eq_false h3]
    (repeat (first | ((with_reducible refine Tr.step rfl ?_); (first | (refine xmQ (z := ?_)) | (refine xaQ (z := ?_)) | ((with_reducible refine Knd.pick ?_); (first | (refine Exec.stab rfl (Stab.pick_t rfl (by first | (with_reducible rfl) | (with_reducible assumption) | (with_reducible exact Bool.not_true) | (with_reducible exact Bool.not_false)) rfl) rfl ?_) | (refine Exec.stab rfl (Stab.pick_f rfl (by first | (with_reducible rfl) | (with_reducible assumption) | (with_reducible exact Bool.not_true) | (with_reducible exact Bool.not_false)) rfl) rfl ?_))))) | (with_reducible first | apply Tr.next | apply Tr.nil) | (refine Tr.guard_s1 rfl rfl rfl (by first | (with_reducible rfl) | (with_reducible assumption) | (with_reducible exact Bool.not_true) | (with_reducible exact Bool.not_false)) rfl rfl ?_) | (with_reducible refine Tr.ret ?_)))
    (refine dnQ (hL := by exact ⟨[_], rfl⟩) (k := ⟨rfl, ?_⟩))
    exact ⟨by rw [decide_eq_false (fun h => h3 h.2.2.2.1)]; rfl, rfl⟩
  rw [show decide (0 ≤ s.ready ∧ s.ready ≤ 1024) = true from decide_eq_true h3]
  (repeat (first | ((with_reducible refine Tr.step rfl ?_); (first | (refine xmQ (z := ?_)) | ((with_reducible refine Knd.pick ?_); (refine Exec.stab rfl (Stab.pick_t rfl (by first | (with_reducible rfl) | (with_reducible assumption) | (with_reducible exact Bool.not_true) | (with_reducible exact Bool.not_false)) rfl) rfl ?_)))) | ((refine Tr.guard_l rfl rfl rfl (by first | (with_reducible rfl) | (with_reducible assumption) | (with_reducible exact Bool.not_true) | (with_reducible exact Bool.not_false)) ?_); (first | (refine xlQ (z := ?_)) | (refine xfQ (z := ?_))))))
  ((refine Tr.guard_l rfl rfl rfl (by first | (with_reducible rfl) | (with_reducible assumption) | (with_reducible exact Bool.not_true) | (with_reducible exact Bool.not_false)) ?_)); refine Exec.call0 rfl (cbetween_fn M s.expiry 0 1024) rfl ?_
  rintro _ _ _ ⟨rfl, rfl⟩
  by_cases h4 : 0 ≤ s.expiry ∧ s.expiry ≤ 1024
  rotate_left
  · rw [show decide (0 ≤ s.expiry ∧ s.expiry ≤ 1024) = false from decide_eq_false h4]
    (repeat (first | ((with_reducible refine Tr.step rfl ?_); (first | (refine xmQ (z := ?_)) | (refine xaQ (z := ?_)) | ((with_reducible refine Knd.pick ?_); (first | (refine Exec.stab rfl (Stab.pick_t rfl (by first | (with_reducible rfl) | (with_reducible assumption) | (with_reducible exact Bool.not_true) | (with_reducible exact Bool.not_false)) rfl) rfl ?_) | (refine Exec.stab rfl (Stab.pick_f rfl (by first | (with_reducible rfl) | (with_reducible assumption) | (with_reducible exact Bool.not_true) | (with_reducible exact Bool.not_false)) rfl) rfl ?_))))) | (with_reducible first | apply Tr.next | apply Tr.nil) | (refine Tr.guard_s1 rfl rfl rfl (by first | (with_reducible rfl) | (with_reducible assumption) | (with_reducible exact Bool.not_true) | (with_reducible exact Bool.not_false)) rfl rfl ?_) | (with_reducible refine Tr.ret ?_)))
    (refine dnQ (hL := by exact ⟨[_], rfl⟩) (k := ⟨rfl, ?_⟩))
    exact ⟨by rw [decide_eq_false (fun h => h4 h.2.2.2.2.1)]; rfl, rfl⟩
  rw [show decide (0 ≤ s.expiry ∧ s.expiry ≤ 1024) = true from decide_eq_true h4]
  (repeat (first | ((with_reducible refine Tr.step rfl ?_); (first | (refine xmQ (z := ?_)) | ((with_reducible refine Knd.pick ?_); (refine Exec.stab rfl (Stab.pick_t rfl (by first | (with_reducible rfl) | (with_reducible assumption) | (with_reducible exact Bool.not_true) | (with_reducible exact Bool.not_false)) rfl) rfl ?_)))) | ((refine Tr.guard_l rfl rfl rfl (by first | (with_reducible rfl) | (with_reducible assumption) | (with_reducible exact Bool.not_true) | (with_reducible exact Bool.not_false)) ?_); (first | (refine xlQ (z := ?_)) | (refine xfQ (z := ?_))))))
  ((refine Tr.guard_l rfl rfl rfl (by first | (with_reducible rfl) | (with_reducible assumption) | (with_reducible exact Bool.not_true) | (with_reducible exact Bool.not_false)) ?_)); refine Exec.call0 rfl (cbetween_fn M s.amount 0 1048576) rfl ?_
  rintro _ _ _ ⟨rfl, rfl⟩
  (repeat (first | ((with_reducible refine Tr.step rfl ?_); (first | (refine xaQ (z := ?_)) | ((with_reducible refine Knd.pick ?_); (refine Exec.stab rfl (Stab.pick_t rfl (by first | (with_reducible rfl) | (with_reducible assumption) | (with_reducible exact Bool.not_true) | (with_reducible exact Bool.not_false)) rfl) rfl ?_)))) | (with_reducible first | apply Tr.next | apply Tr.nil | apply Tr.ret)))
  (refine dnQ (hL := by exact ⟨[_], rfl⟩) (k := ⟨rfl, ?_⟩))
  refine ⟨?_, rfl⟩
  rw [show decide (okSp s) = decide (0 ≤ s.amount ∧ s.amount ≤ 1048576) from decide_eq_decide.2 ⟨fun h => h.2.2.2.2.2, fun h => ⟨h0, h1, h2, h3, h4, h⟩⟩]
  rfl
set_option maxHeartbeats 4000000 in
theorem validRequest_fn (M : Mem) (r : Rq) : Fn0 Try.prog 44 [.agg #[.int .i64 r.no, .int .i64 r.item, .int .i64 r.cust, .int .i64 r.due, .int .i64 r.shelf, .int .i64 r.amount]] M (fun x M' => x = .bool (decide (okRq r)) ∧ M = M') := by
  refine Fn.intro Try.func44 rfl rfl Try.ntmps44 rfl fun E F => ?_
  (repeat (first | ((with_reducible refine Tr.step rfl ?_); (first | (refine xaQ (z := ?_)) | (refine xlQ (z := ?_)) | (refine xfQ (z := ?_)) | ((with_reducible refine Knd.box ?_); (refine Exec.box rfl rfl (fun b => ?_))))) | (with_reducible first | apply Tr.next | apply Tr.seq | apply Tr.region | apply Tr.nil)))
  ((refine Tr.step rfl ?_)); refine Exec.call0 rfl (cbetween_fn M r.no 0 1023) rfl ?_
  rintro _ _ _ ⟨rfl, rfl⟩
  by_cases h0 : 0 ≤ r.no ∧ r.no ≤ 1023
  rotate_left
  · rw [show decide (0 ≤ r.no ∧ r.no ≤ 1023) = false from decide_eq_false h0]
    (repeat (first | ((with_reducible refine Tr.step rfl ?_); (first | (refine xmQ (z := ?_)) | (refine xaQ (z := ?_)) | ((with_reducible refine Knd.pick ?_); (refine Exec.stab rfl (Stab.pick_f rfl (by first | (with_reducible rfl) | (with_reducible assumption) | (with_reducible exact Bool.not_true) | (with_reducible exact Bool.not_false)) rfl) rfl ?_)))) | (with_reducible first | apply Tr.next | apply Tr.nil) | (refine Tr.guard_s1 rfl rfl rfl (by first | (with_reducible rfl) | (with_reducible assumption) | (with_reducible exact Bool.not_true) | (with_reducible exact Bool.not_false)) rfl rfl ?_) | (with_reducible refine Tr.ret ?_)))
    (refine dnQ (hL := by exact ⟨[_], rfl⟩) (k := ⟨rfl, ?_⟩))
    exact ⟨by rw [decide_eq_false (fun h => h0 h.1)]; rfl, rfl⟩
  rw [show decide (0 ≤ r.no ∧ r.no ≤ 1023) = true from decide_eq_true h0]
  (repeat (first | ((with_reducible refine Tr.step rfl ?_); (with_reducible refine Knd.move ?_); (refine xmQ (z := ?_))) | ((refine Tr.guard_l rfl rfl rfl (by first | (with_reducible rfl) | (with_reducible assumption) | (with_reducible exact Bool.not_true) | (with_reducible exact Bool.not_false)) ?_); (first | (refine xlQ (z := ?_)) | (refine xfQ (z := ?_))))))
  ((refine Tr.guard_l rfl rfl rfl (by first | (with_reducible rfl) | (with_reducible assumption) | (with_reducible exact Bool.not_true) | (with_reducible exact Bool.not_false)) ?_)); refine Exec.call0 rfl (cbetween_fn M r.item 0 31) rfl ?_
  rintro _ _ _ ⟨rfl, rfl⟩
  by_cases h1 : 0 ≤ r.item ∧ r.item ≤ 31
  rotate_left
  · rw [show decide (0 ≤ r.item ∧ r.item ≤ 31) = false from decide_eq_false h1]
    (repeat (first | ((with_reducible refine Tr.step rfl ?_); (first | (refine xmQ (z := ?_)) | (refine xaQ (z := ?_)) | ((with_reducible refine Knd.pick ?_); (first | (refine Exec.stab rfl (Stab.pick_t rfl (by first | (with_reducible rfl) | (with_reducible assumption) | (with_reducible exact Bool.not_true) | (with_reducible exact Bool.not_false)) rfl) rfl ?_) | (refine Exec.stab rfl (Stab.pick_f rfl (by first | (with_reducible rfl) | (with_reducible assumption) | (with_reducible exact Bool.not_true) | (with_reducible exact Bool.not_false)) rfl) rfl ?_))))) | (with_reducible first | apply Tr.next | apply Tr.nil) | (refine Tr.guard_s1 rfl rfl rfl (by first | (with_reducible rfl) | (with_reducible assumption) | (with_reducible exact Bool.not_true) | (with_reducible exact Bool.not_false)) rfl rfl ?_) | (with_reducible refine Tr.ret ?_)))
    (refine dnQ (hL := by exact ⟨[_], rfl⟩) (k := ⟨rfl, ?_⟩))
    exact ⟨by rw [decide_eq_false (fun h => h1 h.2.1)]; rfl, rfl⟩
  rw [show decide (0 ≤ r.item ∧ r.item ≤ 31) = true from decide_eq_true h1]
  (repeat (first | ((with_reducible refine Tr.step rfl ?_); (first | (refine xmQ (z := ?_)) | ((with_reducible refine Knd.pick ?_); (refine Exec.stab rfl (Stab.pick_t rfl (by first | (with_reducible rfl) | (with_reducible assumption) | (with_reducible exact Bool.not_true) | (with_reducible exact Bool.not_false)) rfl) rfl ?_)))) | ((refine Tr.guard_l rfl rfl rfl (by first | (with_reducible rfl) | (with_reducible assumption) | (with_reducible exact Bool.not_true) | (with_reducible exact Bool.not_false)) ?_); (first | (refine xlQ (z := ?_)) | (refine xfQ (z := ?_))))))
  ((refine Tr.guard_l rfl rfl rfl (by first | (with_reducible rfl) | (with_reducible assumption) | (with_reducible exact Bool.not_true) | (with_reducible exact Bool.not_false)) ?_)); refine Exec.call0 rfl (cbetween_fn M r.cust 0 4095) rfl ?_
  rintro _ _ _ ⟨rfl, rfl⟩
  by_cases h2 : 0 ≤ r.cust ∧ r.cust ≤ 4095
  rotate_left
  · rw [show decide (0 ≤ r.cust ∧ r.cust ≤ 4095) = false from decide_eq_false h2]
    (repeat (first | ((with_reducible refine Tr.step rfl ?_); (first | (refine xmQ (z := ?_)) | (refine xaQ (z := ?_)) | ((with_reducible refine Knd.pick ?_); (first | (refine Exec.stab rfl (Stab.pick_t rfl (by first | (with_reducible rfl) | (with_reducible assumption) | (with_reducible exact Bool.not_true) | (with_reducible exact Bool.not_false)) rfl) rfl ?_) | (refine Exec.stab rfl (Stab.pick_f rfl (by first | (with_reducible rfl) | (with_reducible assumption) | (with_reducible exact Bool.not_true) | (with_reducible exact Bool.not_false)) rfl) rfl ?_))))) | (with_reducible first | apply Tr.next | apply Tr.nil) | (refine Tr.guard_s1 rfl rfl rfl (by first | (with_reducible rfl) | (with_reducible assumption) | (with_reducible exact Bool.not_true) | (with_reducible exact Bool.not_false)) rfl rfl ?_) | (with_reducible refine Tr.ret ?_)))
    (refine dnQ (hL := by exact ⟨[_], rfl⟩) (k := ⟨rfl, ?_⟩))
    exact ⟨by rw [decide_eq_false (fun h => h2 h.2.2.1)]; rfl, rfl⟩
  rw [show decide (0 ≤ r.cust ∧ r.cust ≤ 4095) = true from decide_eq_true h2]
  (repeat (first | ((with_reducible refine Tr.step rfl ?_); (first | (refine xmQ (z := ?_)) | ((with_reducible refine Knd.pick ?_); (refine Exec.stab rfl (Stab.pick_t rfl (by first | (with_reducible rfl) | (with_reducible assumption) | (with_reducible exact Bool.not_true) | (with_reducible exact Bool.not_false)) rfl) rfl ?_)))) | ((refine Tr.guard_l rfl rfl rfl (by first | (with_reducible rfl) | (with_reducible assumption) | (with_reducible exact Bool.not_true) | (with_reducible exact Bool.not_false)) ?_); (first | (refine xlQ (z := ?_)) | (refine xfQ (z := ?_))))))
  ((refine Tr.guard_l rfl rfl rfl (by first | (with_reducible rfl) | (with_reducible assumption) | (with_reducible exact Bool.not_true) | (with_reducible exact Bool.not_false)) ?_)); refine Exec.call0 rfl (cbetween_fn M r.due 0 1023) rfl ?_
  rintro _ _ _ ⟨rfl, rfl⟩
  by_cases h3 : 0 ≤ r.due ∧ r.due ≤ 1023
  rotate_left
  · rw [show decide (0 ≤ r.due ∧ r.due ≤ 1023) = false from decide_eq_false h3]
    (repeat (first | ((with_reducible refine Tr.step rfl ?_); (first | (refine xmQ (z := ?_)) | (refine xaQ (z := ?_)) | ((with_reducible refine Knd.pick ?_); (first | (refine Exec.stab rfl (Stab.pick_t rfl (by first | (with_reducible rfl) | (with_reducible assumption) | (with_reducible exact Bool.not_true) | (with_reducible exact Bool.not_false)) rfl) rfl ?_) | (refine Exec.stab rfl (Stab.pick_f rfl (by first | (with_reducible rfl) | (with_reducible assumption) | (with_reducible exact Bool.not_true) | (with_reducible exact Bool.not_false)) rfl) rfl ?_))))) | (with_reducible first | apply Tr.next | apply Tr.nil) | (refine Tr.guard_s1 rfl rfl rfl (by first | (with_reducible rfl) | (with_reducible assumption) | (with_reducible exact Bool.not_true) | (with_reducible exact Bool.not_false)) rfl rfl ?_) | (with_reducible refine Tr.ret ?_)))
    (refine dnQ (hL := by exact ⟨[_], rfl⟩) (k := ⟨rfl, ?_⟩))
    exact ⟨by rw [decide_eq_false (fun h => h3 h.2.2.2.1)]; rfl, rfl⟩
  rw [show decide (0 ≤ r.due ∧ r.due ≤ 1023) = true from decide_eq_true h3]
  (repeat (first | ((with_reducible refine Tr.step rfl ?_); (first | (refine xmQ (z := ?_)) | ((with_reducible refine Knd.pick ?_); (refine Exec.stab rfl (Stab.pick_t rfl (by first | (with_reducible rfl) | (with_reducible assumption) | (with_reducible exact Bool.not_true) | (with_reducible exact Bool.not_false)) rfl) rfl ?_)))) | ((refine Tr.guard_l rfl rfl rfl (by first | (with_reducible rfl) | (with_reducible assumption) | (with_reducible exact Bool.not_true) | (with_reducible exact Bool.not_false)) ?_); (first | (refine xlQ (z := ?_)) | (refine xfQ (z := ?_))))))
  ((refine Tr.guard_l rfl rfl rfl (by first | (with_reducible rfl) | (with_reducible assumption) | (with_reducible exact Bool.not_true) | (with_reducible exact Bool.not_false)) ?_)); refine Exec.call0 rfl (cbetween_fn M r.shelf 0 1024) rfl ?_
  rintro _ _ _ ⟨rfl, rfl⟩
  by_cases h4 : 0 ≤ r.shelf ∧ r.shelf ≤ 1024
  rotate_left
  · rw [show decide (0 ≤ r.shelf ∧ r.shelf ≤ 1024) = false from decide_eq_false h4]
    (repeat (first | ((with_reducible refine Tr.step rfl ?_); (first | (refine xmQ (z := ?_)) | (refine xaQ (z := ?_)) | ((with_reducible refine Knd.pick ?_); (first | (refine Exec.stab rfl (Stab.pick_t rfl (by first | (with_reducible rfl) | (with_reducible assumption) | (with_reducible exact Bool.not_true) | (with_reducible exact Bool.not_false)) rfl) rfl ?_) | (refine Exec.stab rfl (Stab.pick_f rfl (by first | (with_reducible rfl) | (with_reducible assumption) | (with_reducible exact Bool.not_true) | (with_reducible exact Bool.not_false)) rfl) rfl ?_))))) | (with_reducible first | apply Tr.next | apply Tr.nil) | (refine Tr.guard_s1 rfl rfl rfl (by first | (with_reducible rfl) | (with_reducible assumption) | (with_reducible exact Bool.not_true) | (with_reducible exact Bool.not_false)) rfl rfl ?_) | (with_reducible refine Tr.ret ?_)))
    (refine dnQ (hL := by exact ⟨[_], rfl⟩) (k := ⟨rfl, ?_⟩))
    exact ⟨by rw [decide_eq_false (fun h => h4 h.2.2.2.2.1)]; rfl, rfl⟩
  rw [show decide (0 ≤ r.shelf ∧ r.shelf ≤ 1024) = true from decide_eq_true h4]
  (repeat (first | ((with_reducible refine Tr.step rfl ?_); (first | (refine xmQ (z := ?_)) | ((with_reducible refine Knd.pick ?_); (refine Exec.stab rfl (Stab.pick_t rfl (by first | (with_reducible rfl) | (with_reducible assumption) | (with_reducible exact Bool.not_true) | (with_reducible exact Bool.not_false)) rfl) rfl ?_)))) | ((refine Tr.guard_l rfl rfl rfl (by first | (with_reducible rfl) | (with_reducible assumption) | (with_reducible exact Bool.not_true) | (with_reducible exact Bool.not_false)) ?_); (first | (refine xlQ (z := ?_)) | (refine xfQ (z := ?_))))))
  ((refine Tr.guard_l rfl rfl rfl (by first | (with_reducible rfl) | (with_reducible assumption) | (with_reducible exact Bool.not_true) | (with_reducible exact Bool.not_false)) ?_)); refine Exec.call0 rfl (cbetween_fn M r.amount 0 1048576) rfl ?_
  rintro _ _ _ ⟨rfl, rfl⟩
  (repeat (first | ((with_reducible refine Tr.step rfl ?_); (first | (refine xaQ (z := ?_)) | ((with_reducible refine Knd.pick ?_); (refine Exec.stab rfl (Stab.pick_t rfl (by first | (with_reducible rfl) | (with_reducible assumption) | (with_reducible exact Bool.not_true) | (with_reducible exact Bool.not_false)) rfl) rfl ?_)))) | (with_reducible first | apply Tr.next | apply Tr.nil | apply Tr.ret)))
  (refine dnQ (hL := by exact ⟨[_], rfl⟩) (k := ⟨rfl, ?_⟩))
  refine ⟨?_, rfl⟩
  rw [show decide (okRq r) = decide (0 ≤ r.amount ∧ r.amount ≤ 1048576) from decide_eq_decide.2 ⟨fun h => h.2.2.2.2.2, fun h => ⟨h0, h1, h2, h3, h4, h⟩⟩]
  rfl
theorem table1_fn (M : Mem) (s : Sp) : Fn0 Try.prog 40 [.agg #[.int .i64 s.no, .int .i64 s.item, .int .i64 s.plant, .int .i64 s.ready, .int .i64 s.expiry, .int .i64 s.amount]] M (fun x M' => x = .bool (!decide (okSp s)) ∧ M = M') := by
  refine Fn.intro Try.func40 rfl rfl Try.ntmps40 rfl fun E F => ?_
  (repeat (first | ((with_reducible refine Tr.step rfl ?_); (first | (refine xaQ (z := ?_)) | (refine xwQ (z := ?_)) | ((with_reducible refine Knd.box ?_); (refine Exec.box rfl rfl (fun b => ?_))))) | (with_reducible first | apply Tr.next | apply Tr.seq | apply Tr.region | apply Tr.nil)))
  ((refine Tr.step rfl ?_)); refine Exec.call0 rfl (validSupply_fn M s) rfl ?_
  rintro _ _ _ ⟨rfl, rfl⟩
  cases decide (okSp s)
  · (repeat (first | ((with_reducible refine Tr.step rfl ?_); (first | (refine xaQ (z := ?_)) | ((with_reducible refine Knd.unOp ?_); (refine Exec.stab rfl (Stab.not rfl) rfl ?_)))) | (with_reducible first | apply Tr.next | apply Tr.nil | apply Tr.ret)))
    (refine dnQ (hL := by exact ⟨[_], rfl⟩) (k := ⟨rfl, ?_⟩))
    exact ⟨rfl, rfl⟩
  · (repeat (first | ((with_reducible refine Tr.step rfl ?_); (first | (refine xaQ (z := ?_)) | ((with_reducible refine Knd.unOp ?_); (refine Exec.stab rfl (Stab.not rfl) rfl ?_)))) | (with_reducible first | apply Tr.next | apply Tr.nil | apply Tr.ret)))
    (refine dnQ (hL := by exact ⟨[_], rfl⟩) (k := ⟨rfl, ?_⟩))
    exact ⟨rfl, rfl⟩
theorem table2_fn (M : Mem) (r : Rq) : Fn0 Try.prog 43 [.agg #[.int .i64 r.no, .int .i64 r.item, .int .i64 r.cust, .int .i64 r.due, .int .i64 r.shelf, .int .i64 r.amount]] M (fun x M' => x = .bool (!decide (okRq r)) ∧ M = M') := by
  refine Fn.intro Try.func43 rfl rfl Try.ntmps43 rfl fun E F => ?_
  (repeat (first | ((with_reducible refine Tr.step rfl ?_); (first | (refine xaQ (z := ?_)) | (refine xwQ (z := ?_)) | ((with_reducible refine Knd.box ?_); (refine Exec.box rfl rfl (fun b => ?_))))) | (with_reducible first | apply Tr.next | apply Tr.seq | apply Tr.region | apply Tr.nil)))
  ((refine Tr.step rfl ?_)); refine Exec.call0 rfl (validRequest_fn M r) rfl ?_
  rintro _ _ _ ⟨rfl, rfl⟩
  cases decide (okRq r)
  · (repeat (first | ((with_reducible refine Tr.step rfl ?_); (first | (refine xaQ (z := ?_)) | ((with_reducible refine Knd.unOp ?_); (refine Exec.stab rfl (Stab.not rfl) rfl ?_)))) | (with_reducible first | apply Tr.next | apply Tr.nil | apply Tr.ret)))
    (refine dnQ (hL := by exact ⟨[_], rfl⟩) (k := ⟨rfl, ?_⟩))
    exact ⟨rfl, rfl⟩
  · (repeat (first | ((with_reducible refine Tr.step rfl ?_); (first | (refine xaQ (z := ?_)) | ((with_reducible refine Knd.unOp ?_); (refine Exec.stab rfl (Stab.not rfl) rfl ?_)))) | (with_reducible first | apply Tr.next | apply Tr.nil | apply Tr.ret)))
    (refine dnQ (hL := by exact ⟨[_], rfl⟩) (k := ⟨rfl, ?_⟩))
    exact ⟨rfl, rfl⟩
set_option maxHeartbeats 4000000 in
set_option maxRecDepth 20000 in
theorem mayUse_fn (M : Mem) (ws : List Value) (w : Wd) (hw : RWd M ws w) (a y : Int) : Fn0 Try.prog 75 [.agg ws.toArray, .int .i64 a, .int .i64 y] M (fun r M' => r = .bool (usedF w a y) ∧ M = M') := by
  obtain ⟨h11, hone, ⟨A, c, h7, hsw⟩, -⟩ := hw
  have hl := hsw.len_le
  refine Fn.intro Try.func75 rfl rfl Try.ntmps75 rfl fun E F => ?_
  (repeat (first | ((with_reducible refine Tr.step rfl ?_); (first | (refine xmQ (z := ?_)) | (refine xaQ (z := ?_)) | ((with_reducible refine Knd.load ?_); (refine Exec.stab rfl (Stab.load rfl (tysOk.get rfl) rfl (by repeat (first | exact Has.here | apply Has.there)) (by assumption)) rfl ?_)) | (refine xfQ (z := ?_)) | (refine xnQ (z := ?_)) | ((with_reducible refine Knd.store ?_); (refine Exec.storeW rfl rfl (tysOk.get rfl) (by repeat (first | exact Upd.here | apply Upd.there)) rfl rfl (by repeat (first | (with_reducible assumption) | exact AllOne.nil | exact AllOne.bytes _ | refine AllOne.cons (by first | rfl | assumption) ?_)) ?_)) | ((with_reducible refine Knd.box ?_); (refine Exec.box rfl rfl (fun b => ?_))) | ((with_reducible refine Knd.alloc ?_); (refine Exec.alloc (tysOk.get rfl) rfl rfl (fun b => ?_))) | ((with_reducible refine Knd.build ?_); (refine Exec.stab rfl (Stab.build tysOk rfl rfl rfl rfl (by repeat (first | exact BuildP.nil | ((apply BuildP.one); (rfl); (rfl); (first | rfl | assumption); (repeat (first | exact SetL.z | apply SetL.s))) | ((apply BuildP.many); (rfl); (rfl); (rfl); (rfl); (repeat (first | exact PutL.nil | ((apply PutL.cons); (repeat (first | exact SetL.z | apply SetL.s))))))))) rfl ?_)))) | (with_reducible first | apply Tr.next | apply Tr.seq | apply Tr.region | apply Tr.nil | apply Tr.block)))
  rename_i b3
  generalize b = b7
  refine Tr.loop (α := Nat) (fun i => ⟨33, [(18, .int .i64 (i : Int)), (17, .int .i64 (w.swaps.length : Int)), (16, .slice A w.swaps.length c), (1, .int .i64 a), (2, .int .i64 y), (7, .pointer (some ⟨b7, 0, none⟩)), (6, .bool false)], [], M, box b7 165 [.int .i64 a, .int .i64 y] :: box b3 38 ws :: ([] ++ F)⟩)
    (fun i => i ≤ w.swaps.length ∧ (w.swaps.take i).any (fun p => decide (p = (a, y))) = false) (fun i => w.swaps.length - i) 0 ⟨Nat.zero_le _, rfl⟩ hsQ (fun i hi => ?_)
  obtain ⟨hi, hany⟩ := hi
  by_cases hlt : i < w.swaps.length
  · obtain ⟨p, hp⟩ := get_of_lt hlt
    obtain ⟨hA, ch, hat, s1, s2, rfl⟩ := hsw.elem hp
    by_cases hk : [p.1, p.2] = [a, y]
    · (repeat (first | ((with_reducible refine Tr.step rfl ?_); (first | (refine xaQ (z := ?_)) | ((with_reducible refine Knd.load ?_); (first | (refine xlQ (z := ?_)) | (refine xwQ (z := ?_)) | (refine Exec.stab rfl (Stab.loadMA rfl (tysOk.get rfl) rfl (by assumption) (by first | rfl | assumption)) rfl ?_))) | (refine xfQ (z := ?_)) | ((with_reducible refine Knd.binOp ?_); (first | (refine Exec.stab rfl (Stab.steqL rfl rfl (by repeat (first | exact IntsL.nil | apply IntsL.cons)) (by repeat (first | exact IntsL.nil | apply IntsL.cons)) (tysOk.get rfl) rfl (by kernel_rfl) (by kernel_rfl) rfl rfl) rfl ?_) | (refine xiQ (z := ?_)))) | ((with_reducible refine Knd.store ?_); (refine Exec.storeW rfl rfl (tysOk.get rfl) (by repeat (first | exact Upd.here | apply Upd.there)) rfl rfl (by repeat (first | (with_reducible assumption) | exact AllOne.nil | exact AllOne.bytes _ | refine AllOne.cons (by first | rfl | assumption) ?_)) ?_)) | ((with_reducible refine Knd.alloc ?_); (refine Exec.alloc (tysOk.get rfl) rfl rfl (fun b => ?_))) | (refine xxQ (z := ?_)) | ((with_reducible refine Knd.build ?_); (refine Exec.stab rfl (Stab.build tysOk rfl rfl rfl rfl (by repeat (first | exact BuildP.nil | ((apply BuildP.one); (rfl); (rfl); (first | rfl | assumption); (repeat (first | exact SetL.z | apply SetL.s))) | ((apply BuildP.many); (rfl); (rfl); (rfl); (rfl); (repeat (first | exact PutL.nil | ((apply PutL.cons); (repeat (first | exact SetL.z | apply SetL.s))))))))) rfl ?_)))) | (with_reducible first | apply Tr.next | apply Tr.seq | apply Tr.region | apply Tr.nil | apply Tr.skip | apply Tr.block | apply Tr.ret | apply Tr.then_ret | apply Tr.in_ret) | (refine Tr.cond_t rfl (by first | (with_reducible assumption) | (with_reducible rfl) | (with_reducible exact (not_not_intro rfl)) | omega) ?_)))
      (refine dnQ (hL := by exact ⟨[_, _, _], rfl⟩) (k := ⟨rfl, ?_⟩))
      refine ⟨?_, rfl⟩
      injection hk with e1 e2
      injection e2 with e2 _
      have hany2 : w.swaps.any (fun p => decide (p = (a, y))) = true := List.any_eq_true.2 ⟨p, List.mem_of_getElem? hp, decide_eq_true (show p = (a, y) from Prod.ext e1 e2)⟩
      unfold usedF
      rw [hany2, Bool.true_or]
      rfl
    · (repeat (first | ((with_reducible refine Tr.step rfl ?_); (first | (refine xmQ (z := ?_)) | ((with_reducible refine Knd.load ?_); (first | (refine xlQ (z := ?_)) | (refine xwQ (z := ?_)) | (refine Exec.stab rfl (Stab.loadMA rfl (tysOk.get rfl) rfl (by assumption) (by first | rfl | assumption)) rfl ?_))) | (refine xfQ (z := ?_)) | ((with_reducible refine Knd.binOp ?_); (first | (refine Exec.stab rfl (Stab.steqL rfl rfl (by repeat (first | exact IntsL.nil | apply IntsL.cons)) (by repeat (first | exact IntsL.nil | apply IntsL.cons)) (tysOk.get rfl) rfl (by kernel_rfl) (by kernel_rfl) rfl rfl) rfl ?_) | (refine xdQ (z := ?_)) | (refine xiQ (z := ?_)))) | ((with_reducible refine Knd.store ?_); (refine Exec.storeW rfl rfl (tysOk.get rfl) (by repeat (first | exact Upd.here | apply Upd.there)) rfl rfl (by repeat (first | (with_reducible assumption) | exact AllOne.nil | exact AllOne.bytes _ | refine AllOne.cons (by first | rfl | assumption) ?_)) ?_)) | ((with_reducible refine Knd.alloc ?_); (refine Exec.alloc (tysOk.get rfl) rfl rfl (fun b => ?_))) | (refine xxQ (z := ?_)) | ((with_reducible refine Knd.build ?_); (refine Exec.stab rfl (Stab.build tysOk rfl rfl rfl rfl (by repeat (first | exact BuildP.nil | ((apply BuildP.one); (rfl); (rfl); (first | rfl | assumption); (repeat (first | exact SetL.z | apply SetL.s))) | ((apply BuildP.many); (rfl); (rfl); (rfl); (rfl); (repeat (first | exact PutL.nil | ((apply PutL.cons); (repeat (first | exact SetL.z | apply SetL.s))))))))) rfl ?_)))) | (with_reducible first | apply Tr.next | apply Tr.seq | apply Tr.region | apply Tr.nil | apply Tr.skip | apply Tr.block | apply Tr.in_normal) | (refine Tr.cond_t rfl (by first | (with_reducible assumption) | (with_reducible rfl) | (with_reducible exact (not_not_intro rfl)) | omega) ?_) | (refine Tr.cond_f rfl (by first | (with_reducible assumption) | (with_reducible rfl) | (with_reducible exact (not_not_intro rfl)) | omega) ?_)))
      refine Tr.again (i + 1) ⟨by omega, ?_⟩ (by omega) hsQ
      rw [List.take_add_one, hp, Option.toList_some, List.any_append, hany]
      have : ¬ p = (a, y) := fun h => hk (by rw [h])
      simp [this]
  · have e : i = w.swaps.length := by omega
    subst e
    rw [List.take_length] at hany
    (repeat (first | ((with_reducible refine Tr.step rfl ?_); (first | (refine xmQ (z := ?_)) | (refine xaQ (z := ?_)) | (refine xiQ (z := ?_)))) | (with_reducible first | apply Tr.next | apply Tr.seq | apply Tr.region | apply Tr.nil | apply Tr.exit | apply Tr.ret | apply Tr.then_exit) | ((with_reducible refine Tr.in_exit ?_ ?_); (exact rfl)) | (refine Tr.cond_f rfl (by first | (with_reducible assumption) | (with_reducible rfl) | (with_reducible exact (not_not_intro rfl)) | omega) ?_)))
    (refine dnQ (hL := by exact ⟨[_, _], rfl⟩) (k := ⟨rfl, ?_⟩))
    refine ⟨?_, rfl⟩
    unfold usedF
    rw [hany, Bool.false_or]
    rfl
set_option maxHeartbeats 4000000 in
theorem couldFit_fn (M : Mem) (ws : List Value) (w : Wd) (hw : RWd M ws w) (s : Sp) (r : Rq) (hr : okRq r) : Fn0 Try.prog 45 [.agg ws.toArray, .agg #[.int .i64 s.no, .int .i64 s.item, .int .i64 s.plant, .int .i64 s.ready, .int .i64 s.expiry, .int .i64 s.amount], .agg #[.int .i64 r.no, .int .i64 r.item, .int .i64 r.cust, .int .i64 r.due, .int .i64 r.shelf, .int .i64 r.amount]] M (fun x M' => x = .bool (couldF w s r) ∧ M = M') := by
  have h11 := hw.len
  obtain ⟨-, -, -, d1, d2, -⟩ := hr
  refine Fn.intro Try.func45 rfl rfl Try.ntmps45 rfl fun E F => ?_
  by_cases h1 : s.ready ≤ r.due
  rotate_left
  · (repeat (first | ((with_reducible refine Tr.step rfl ?_); (first | (refine xmQ (z := ?_)) | (refine xaQ (z := ?_)) | (refine xlQ (z := ?_)) | (refine xfQ (z := ?_)) | (refine xiQ (z := ?_)) | ((with_reducible refine Knd.pick ?_); (first | (refine Exec.stab rfl (Stab.pick_f rfl (by first | (with_reducible rfl) | (with_reducible assumption) | (with_reducible exact Bool.not_true) | (with_reducible exact Bool.not_false)) rfl) rfl ?_) | (refine Exec.stab rfl (Stab.pick_fd rfl (by first | (with_reducible assumption) | (with_reducible rfl) | (with_reducible exact (not_not_intro rfl)) | omega) rfl) rfl ?_))) | ((with_reducible refine Knd.box ?_); (refine Exec.box rfl rfl (fun b => ?_))))) | (with_reducible first | apply Tr.next | apply Tr.seq | apply Tr.region | apply Tr.nil) | (refine Tr.guard_s1 rfl rfl rfl (by first | (with_reducible rfl) | (with_reducible assumption) | (with_reducible exact Bool.not_true) | (with_reducible exact Bool.not_false)) rfl rfl ?_) | (refine Tr.guard_n rfl rfl rfl (by first | (with_reducible assumption) | (with_reducible rfl) | (with_reducible exact (not_not_intro rfl)) | omega) rfl rfl ?_) | (with_reducible refine Tr.ret ?_)))
    (refine dnQ (hL := by exact ⟨[_, _, _], rfl⟩) (k := ⟨rfl, ?_⟩))
    exact ⟨by rw [couldF, decide_eq_false h1, Bool.false_and]; rfl, rfl⟩
  by_cases h2 : s.expiry ≥ r.due + r.shelf
  rotate_left
  · (repeat (first | ((with_reducible refine Tr.step rfl ?_); (first | (refine xmQ (z := ?_)) | (refine xaQ (z := ?_)) | (refine xlQ (z := ?_)) | (refine xfQ (z := ?_)) | (refine xiQ (z := ?_)) | ((with_reducible refine Knd.pick ?_); (first | (refine Exec.stab rfl (Stab.pick_td rfl (by first | (with_reducible assumption) | (with_reducible rfl) | (with_reducible exact (not_not_intro rfl)) | omega) rfl) rfl ?_) | (refine Exec.stab rfl (Stab.pick_fd rfl (by first | (with_reducible assumption) | (with_reducible rfl) | (with_reducible exact (not_not_intro rfl)) | omega) rfl) rfl ?_))) | ((with_reducible refine Knd.box ?_); (refine Exec.box rfl rfl (fun b => ?_))))) | (with_reducible first | apply Tr.next | apply Tr.seq | apply Tr.region | apply Tr.nil) | ((refine Tr.guard_y rfl rfl rfl (by first | (with_reducible assumption) | (with_reducible rfl) | (with_reducible exact (not_not_intro rfl)) | omega) ?_); (first | (refine xlQ (z := ?_)) | (refine xfQ (z := ?_)) | ((with_reducible refine Knd.binOp ?_); (first | (refine xdQ (z := ?_)) | (refine xiQ (z := ?_)))))) | (refine Tr.guard_n rfl rfl rfl (by first | (with_reducible assumption) | (with_reducible rfl) | (with_reducible exact (not_not_intro rfl)) | omega) rfl rfl ?_) | (with_reducible refine Tr.ret ?_)))
    (refine dnQ (hL := by exact ⟨[_, _, _], rfl⟩) (k := ⟨rfl, ?_⟩))
    exact ⟨by rw [couldF, decide_eq_false (show ¬ r.due + r.shelf ≤ s.expiry from h2), Bool.false_and, Bool.and_false]; rfl, rfl⟩
  (repeat (first | ((with_reducible refine Tr.step rfl ?_); (first | (refine xmQ (z := ?_)) | (refine xaQ (z := ?_)) | (refine xlQ (z := ?_)) | (refine xfQ (z := ?_)) | (refine xiQ (z := ?_)) | ((with_reducible refine Knd.pick ?_); (refine Exec.stab rfl (Stab.pick_td rfl (by first | (with_reducible assumption) | (with_reducible rfl) | (with_reducible exact (not_not_intro rfl)) | omega) rfl) rfl ?_)) | ((with_reducible refine Knd.box ?_); (refine Exec.box rfl rfl (fun b => ?_))))) | (with_reducible first | apply Tr.next | apply Tr.seq | apply Tr.region | apply Tr.nil) | ((refine Tr.guard_y rfl rfl rfl (by first | (with_reducible assumption) | (with_reducible rfl) | (with_reducible exact (not_not_intro rfl)) | omega) ?_); (first | ((with_reducible refine Knd.load ?_); (first | (refine xlQ (z := ?_)) | (refine Exec.stab rfl (Stab.loadW rfl (tysOk.get rfl) rfl (by repeat (first | exact Has.here | apply Has.there)) (by assumption)) rfl ?_))) | (refine xfQ (z := ?_)) | ((with_reducible refine Knd.binOp ?_); (first | (refine xdQ (z := ?_)) | (refine xiQ (z := ?_))))))))
  ((refine Tr.guard_y rfl rfl rfl (by first | (with_reducible assumption) | (with_reducible rfl) | (with_reducible exact (not_not_intro rfl)) | omega) ?_)); refine Exec.call0 rfl (mayUse_fn M ws w hw s.item r.item) rfl ?_
  rintro _ _ _ ⟨rfl, rfl⟩
  (repeat (first | ((with_reducible refine Tr.step rfl ?_); (first | (refine xaQ (z := ?_)) | ((with_reducible refine Knd.pick ?_); (refine Exec.stab rfl (Stab.pick_td rfl (by first | (with_reducible assumption) | (with_reducible rfl) | (with_reducible exact (not_not_intro rfl)) | omega) rfl) rfl ?_)))) | (with_reducible first | apply Tr.next | apply Tr.nil | apply Tr.ret)))
  (refine dnQ (hL := by exact ⟨[_, _, _], rfl⟩) (k := ⟨rfl, ?_⟩))
  exact ⟨by rw [couldF, decide_eq_true h1, decide_eq_true (show r.due + r.shelf ≤ s.expiry from h2), Bool.true_and, Bool.true_and]; rfl, rfl⟩
def rdC (y : Rd) : List Value := [.int .i64 y.1.1, .int .i64 y.1.2.1, .int .i64 y.1.2.2, .int .i64 y.2.1, .int .i64 y.2.2]
def RRd (_ : Mem) (c : List Value) (y : Rd) : Prop := c = rdC y
theorem RRd.mono (M M' : Mem) (c : List Value) (f : Rd) (_ : Mem.le M M') (h : RRd M c f) : RRd M' c f := h
set_option maxHeartbeats 2000000 in
theorem look_fn (M : Mem) (s : Sp) (r : Rq) (hr : okRq r) : Fn0 Try.prog 46 [.agg #[.int .i64 s.no, .int .i64 s.item, .int .i64 s.plant, .int .i64 s.ready, .int .i64 s.expiry, .int .i64 s.amount], .agg #[.int .i64 r.no, .int .i64 r.item, .int .i64 r.cust, .int .i64 r.due, .int .i64 r.shelf, .int .i64 r.amount]] M (fun x M' => x = .agg #[.int .i64 7, .int .i64 r.cust, .int .i64 s.item, .int .i64 r.due, .int .i64 (r.due + 1)] ∧ M = M') := by
  obtain ⟨-, -, -, d1, d2, -⟩ := hr
  refine Fn.intro Try.func46 rfl rfl Try.ntmps46 rfl fun E F => ?_
  (repeat (first | ((with_reducible refine Tr.step rfl ?_); (first | ((with_reducible refine Knd.load ?_); (first | (refine xlQ (z := ?_)) | (refine xwQ (z := ?_)))) | (refine xfQ (z := ?_)) | (refine xdQ (z := ?_)) | ((with_reducible refine Knd.store ?_); (refine Exec.storeW rfl rfl (tysOk.get rfl) (by repeat (first | exact Upd.here | apply Upd.there)) rfl rfl (by repeat (first | (with_reducible assumption) | exact AllOne.nil | exact AllOne.bytes _ | refine AllOne.cons (by first | rfl | assumption) ?_)) ?_)) | ((with_reducible refine Knd.box ?_); (refine Exec.box rfl rfl (fun b => ?_))) | ((with_reducible refine Knd.alloc ?_); (refine Exec.alloc (tysOk.get rfl) rfl rfl (fun b => ?_))) | ((with_reducible refine Knd.build ?_); (refine Exec.stab rfl (Stab.build tysOk rfl rfl rfl rfl (by repeat (first | exact BuildP.nil | ((apply BuildP.one); (rfl); (rfl); (first | rfl | assumption); (repeat (first | exact SetL.z | apply SetL.s))) | ((apply BuildP.many); (rfl); (rfl); (rfl); (rfl); (repeat (first | exact PutL.nil | ((apply PutL.cons); (repeat (first | exact SetL.z | apply SetL.s))))))))) rfl ?_)))) | (with_reducible first | apply Tr.next | apply Tr.seq | apply Tr.region | apply Tr.nil | apply Tr.ret)))
  (refine Tr.done (by first | exact .inl rfl | exact .inr rfl) rfl (by repeat (first | exact RVs.nil | (apply RVs.cons; (exact RV.cellW (by rfl) (tysOk.get (by rfl)) (by rfl) (by repeat (first | exact Has.here | apply Has.there)) (by first | rfl | assumption))))) (by first | exact Mem.le.refl _ | assumption) (by exact ⟨[_, _, _, _], rfl⟩) ⟨rfl, ?_⟩)
  exact ⟨rfl, rfl⟩
set_option maxHeartbeats 2000000 in
theorem refused_fn (M : Mem) (ws : List Value) (w : Wd) (hw : RWd M ws w) (y : Rd) (known : Int) : Fn0 Try.prog 47 [.agg ws.toArray, .agg #[.int .i64 y.1.1, .int .i64 y.1.2.1, .int .i64 y.1.2.2, .int .i64 y.2.1, .int .i64 y.2.2], .int .i64 known] M (fun r M' => r = .bool (refusedF w y known) ∧ M = M') := by
  obtain ⟨h11, hone, -, B, k, h10, hfa⟩ := hw
  refine Fn.intro Try.func47 rfl rfl Try.ntmps47 rfl fun E F => ?_
  (repeat (first | ((with_reducible refine Tr.step rfl ?_); (first | (refine xmQ (z := ?_)) | (refine xaQ (z := ?_)) | ((with_reducible refine Knd.load ?_); (first | (refine xlQ (z := ?_)) | (refine Exec.stab rfl (Stab.load rfl (tysOk.get rfl) rfl (by repeat (first | exact Has.here | apply Has.there)) (by assumption)) rfl ?_) | (refine Exec.stab rfl (Stab.loadP rfl (tysOk.get rfl) rfl (by repeat (first | exact Has.here | apply Has.there)) (by repeat (first | exact TakeL.z | apply TakeL.s))) rfl ?_))) | (refine xfQ (z := ?_)) | ((with_reducible refine Knd.box ?_); (refine Exec.box rfl rfl (fun b => ?_))))) | (with_reducible first | apply Tr.next | apply Tr.seq | apply Tr.region | apply Tr.nil)))
  ((refine Tr.step rfl ?_)); refine Exec.call0 rfl (at_fn M B k w.facts y.1 y.2.1 known hfa) rfl ?_
  rintro _ _ _ ⟨rfl, rfl⟩
  cases ha : atF w.facts y.1 y.2.1 known with
  | none =>
    simp only [Option.isSome_none, Option.getD_none]
    (repeat (first | ((with_reducible refine Tr.step rfl ?_); (first | (refine xmQ (z := ?_)) | (refine xaQ (z := ?_)) | ((with_reducible refine Knd.pick ?_); (refine Exec.stab rfl (Stab.pick_f rfl (by first | (with_reducible rfl) | (with_reducible assumption) | (with_reducible exact Bool.not_true) | (with_reducible exact Bool.not_false)) rfl) rfl ?_)) | ((with_reducible refine Knd.extract ?_); (refine Exec.stab rfl (Stab.extract rfl rfl) rfl ?_)))) | (with_reducible first | apply Tr.next | apply Tr.seq | apply Tr.region | apply Tr.nil) | (refine Tr.guard_s1 rfl rfl rfl (by first | (with_reducible rfl) | (with_reducible assumption) | (with_reducible exact Bool.not_true) | (with_reducible exact Bool.not_false)) rfl rfl ?_) | (with_reducible refine Tr.ret ?_)))
    (refine dnQ (hL := by exact ⟨[_, _], rfl⟩) (k := ⟨rfl, ?_⟩))
    exact ⟨by rw [refusedF, ha]; rfl, rfl⟩
  | some n =>
    simp only [Option.isSome_some, Option.getD_some]
    (repeat (first | ((with_reducible refine Tr.step rfl ?_); (first | (refine xmQ (z := ?_)) | (refine xaQ (z := ?_)) | ((with_reducible refine Knd.pick ?_); (refine Exec.stab rfl (Stab.pick_t rfl (by first | (with_reducible rfl) | (with_reducible assumption) | (with_reducible exact Bool.not_true) | (with_reducible exact Bool.not_false)) rfl) rfl ?_)) | ((with_reducible refine Knd.extract ?_); (refine Exec.stab rfl (Stab.extract rfl rfl) rfl ?_)))) | (with_reducible first | apply Tr.next | apply Tr.seq | apply Tr.region | apply Tr.nil) | ((refine Tr.guard_l rfl rfl rfl (by first | (with_reducible rfl) | (with_reducible assumption) | (with_reducible exact Bool.not_true) | (with_reducible exact Bool.not_false)) ?_); (first | (refine xmQ (z := ?_)) | (refine xiQ (z := ?_)))) | (with_reducible refine Tr.ret ?_)))
    (refine dnQ (hL := by exact ⟨[_, _], rfl⟩) (k := ⟨rfl, ?_⟩))
    exact ⟨by rw [refusedF, ha]; simp; rfl, rfl⟩
end Go.Proofs.Ytlifjajcmnkhfaa

/-
  Promises: the contracts of slices' functions on supplies, requests, keys and reads.
  Conditions: none.
-/
namespace Go.Proofs.Ytlifjajcmnkhfaa
open Go Bf
attribute [local irreducible] Tr Exec Stab HasTy Go.Addr.add IntKind.wrap
def RKy (_ : Mem) (c : List Value) (y : Ky) : Prop := c = kyC y
theorem RKy.mono (M M' : Mem) (c : List Value) (f : Ky) (_ : Mem.le M M') (h : RKy M c f) : RKy M' c f := h
theorem spC_len (y : Sp) : (spC y).length = 6 := rfl
theorem spC_one (y : Sp) : ∀ u ∈ spC y, u.oneCell' = true := by
  intro u hu
  simp only [spC, List.mem_cons, List.not_mem_nil, or_false] at hu
  rcases hu with rfl | rfl | rfl | rfl | rfl | rfl <;> rfl
theorem spC_elems (M : Mem) (l : List Sp) : Elems 6 RSpC M (l.flatMap spC) l := Elems.flat spC_len (fun _ => rfl) l
theorem rqC_len (y : Rq) : (rqC y).length = 6 := rfl
theorem rqC_one (y : Rq) : ∀ u ∈ rqC y, u.oneCell' = true := by
  intro u hu
  simp only [rqC, List.mem_cons, List.not_mem_nil, or_false] at hu
  rcases hu with rfl | rfl | rfl | rfl | rfl | rfl <;> rfl
theorem rqC_elems (M : Mem) (l : List Rq) : Elems 6 RRqC M (l.flatMap rqC) l := Elems.flat rqC_len (fun _ => rfl) l
theorem kyC_len (y : Ky) : (kyC y).length = 3 := rfl
theorem kyC_one (y : Ky) : ∀ u ∈ kyC y, u.oneCell' = true := by
  intro u hu
  simp only [kyC, List.mem_cons, List.not_mem_nil, or_false] at hu
  rcases hu with rfl | rfl | rfl <;> rfl
theorem kyC_elems (M : Mem) (l : List Ky) : Elems 3 RKy M (l.flatMap kyC) l := Elems.flat kyC_len (fun _ => rfl) l
theorem rdC_len (y : Rd) : (rdC y).length = 5 := rfl
theorem rdC_one (y : Rd) : ∀ u ∈ rdC y, u.oneCell' = true := by
  intro u hu
  simp only [rdC, List.mem_cons, List.not_mem_nil, or_false] at hu
  rcases hu with rfl | rfl | rfl | rfl | rfl <;> rfl
theorem rdC_elems (M : Mem) (l : List Rd) : Elems 5 RRd M (l.flatMap rdC) l := Elems.flat rdC_len (fun _ => rfl) l
theorem fcC_len (y : Fc) : (fcC y).length = 8 := rfl
theorem fcC_one (y : Fc) : ∀ u ∈ fcC y, u.oneCell' = true := by
  intro u hu
  simp only [fcC, List.mem_cons, List.not_mem_nil, or_false] at hu
  rcases hu with rfl | rfl | rfl | rfl | rfl | rfl | rfl | rfl <;> rfl
theorem fcC_elems (M : Mem) (l : List Fc) : Elems 8 RFc M (l.flatMap fcC) l := Elems.flat fcC_len (fun _ => rfl) l
set_option maxHeartbeats 2000000 in
theorem indexS_fn (M : Mem) (A : Option Addr) (c : Nat) (l : List Sp) (hl : SlOf 6 RSpC M (.slice A l.length c) l) (f : FuncId) (cap : List Value) (G : Sp → Bool) (hG : ∀ s ∈ l, Fn0 Try.prog f ([.agg #[.int .i64 s.no, .int .i64 s.item, .int .i64 s.plant, .int .i64 s.ready, .int .i64 s.expiry, .int .i64 s.amount]] ++ cap) M (fun v M' => v = .bool (G s) ∧ M = M')) :
    Fn0 Try.prog 72 [.slice A l.length c, .func (.func f) #[] cap.toArray] M (fun r M' => (∃ z : Int, r = .int .i64 z ∧ decide (0 ≤ z) = l.any G) ∧ M = M') := by
  have hll := hl.len_le
  refine Fn.intro Try.func72 rfl rfl Try.ntmps72 rfl fun E F => ?_
  (repeat (first | ((with_reducible refine Tr.step rfl ?_); (first | (refine xmQ (z := ?_)) | (refine xaQ (z := ?_)) | (refine xnQ (z := ?_)))) | (with_reducible first | apply Tr.next | apply Tr.seq | apply Tr.region | apply Tr.nil | apply Tr.block)))
  refine Tr.loop (α := Nat) (fun i => ⟨19, [(8, .int .i64 i), (7, .int .i64 l.length), (0, .slice A l.length c), (1, .func (.func f) #[] cap.toArray)], [], M, [] ++ F⟩) (fun i => i ≤ l.length ∧ (l.take i).any G = false) (fun i => l.length - i) 0 ⟨by simp, by simp⟩ hsQ (fun i hi => ?_)
  obtain ⟨hi, hany⟩ := hi
  by_cases hlt : i < l.length
  · obtain ⟨s, hx⟩ := get_of_lt hlt
    obtain ⟨hA, ch, hat, rfl⟩ := hl.elem hx
    simp only [spC] at hat
    have hg := hG s (List.mem_of_getElem? hx)
    have htake : (l.take (i + 1)).any G = ((l.take i).any G || G s) := by rw [List.take_add_one, hx]; simp
    (repeat (first | ((with_reducible refine Tr.step rfl ?_); (first | (refine xmQ (z := ?_)) | (refine xaQ (z := ?_)) | ((with_reducible refine Knd.load ?_); (refine Exec.stab rfl (Stab.loadMA rfl (tysOk.get rfl) rfl (by assumption) (by first | rfl | assumption)) rfl ?_)) | (refine xiQ (z := ?_)) | (refine xxQ (z := ?_)))) | (with_reducible first | apply Tr.next | apply Tr.seq | apply Tr.region | apply Tr.nil | apply Tr.skip | apply Tr.block) | (refine Tr.cond_t rfl (by first | (with_reducible assumption) | (with_reducible rfl) | (with_reducible exact (not_not_intro rfl)) | omega) ?_)))
    ((refine Tr.step rfl ?_))
    refine Exec.callv (A := []) (first := []) (cap := cap) rfl rfl hg (List.Perm.refl _) rfl ?_
    rintro _ _ _ _ ⟨rfl, rfl, rfl⟩
    cases hGx : G s
    · rw [hGx] at htake
      (repeat (first | ((with_reducible refine Tr.step rfl ?_); (first | (refine xmQ (z := ?_)) | (refine xdQ (z := ?_)))) | (with_reducible first | apply Tr.next | apply Tr.region | apply Tr.nil | apply Tr.skip | apply Tr.in_normal) | (refine Tr.cond_bf rfl (by first | (with_reducible rfl) | (with_reducible assumption) | (with_reducible exact Bool.not_true) | (with_reducible exact Bool.not_false)) ?_)))
      refine Tr.again (i + 1) ⟨hlt, by rw [htake, hany]; rfl⟩ (by omega) hsQ
    · (repeat (first | ((with_reducible refine Tr.step rfl ?_); (first | (refine xmQ (z := ?_)) | (refine xaQ (z := ?_)))) | (with_reducible first | apply Tr.next | apply Tr.seq | apply Tr.region | apply Tr.nil | apply Tr.ret | apply Tr.then_ret | apply Tr.in_ret) | (refine Tr.cond_bt rfl (by first | (with_reducible rfl) | (with_reducible assumption) | (with_reducible exact Bool.not_true) | (with_reducible exact Bool.not_false)) ?_)))
      (refine dnQ (hL := by exact ⟨[], rfl⟩) (k := ⟨rfl, ?_⟩))
      refine ⟨⟨i, rfl, ?_⟩, rfl⟩
      have : l.any G = true := List.any_eq_true.2 ⟨s, List.mem_of_getElem? hx, hGx⟩
      rw [this]; simp
  · have e : i = l.length := by omega
    subst e
    rw [List.take_length] at hany
    (repeat (first | ((with_reducible refine Tr.step rfl ?_); (first | (refine xaQ (z := ?_)) | (refine xiQ (z := ?_)))) | (with_reducible first | apply Tr.next | apply Tr.seq | apply Tr.region | apply Tr.nil | apply Tr.exit | apply Tr.ret | apply Tr.then_exit) | ((with_reducible refine Tr.in_exit ?_ ?_); (exact rfl)) | (refine Tr.cond_f rfl (by first | (with_reducible assumption) | (with_reducible rfl) | (with_reducible exact (not_not_intro rfl)) | omega) ?_)))
    (refine dnQ (hL := by exact ⟨[], rfl⟩) (k := ⟨rfl, ?_⟩))
    exact ⟨⟨-1, rfl, by rw [hany]; rfl⟩, rfl⟩
set_option maxHeartbeats 1000000 in
theorem containsS_fn (M : Mem) (A : Option Addr) (c : Nat) (l : List Sp) (hl : SlOf 6 RSpC M (.slice A l.length c) l) (f : FuncId) (cap : List Value) (G : Sp → Bool) (hG : ∀ s ∈ l, Fn0 Try.prog f ([.agg #[.int .i64 s.no, .int .i64 s.item, .int .i64 s.plant, .int .i64 s.ready, .int .i64 s.expiry, .int .i64 s.amount]] ++ cap) M (fun v M' => v = .bool (G s) ∧ M = M')) :
    Fn0 Try.prog 39 [.slice A l.length c, .func (.func f) #[] cap.toArray] M (fun r M' => r = .bool (l.any G) ∧ M = M') := by
  refine Fn.intro Try.func39 rfl rfl Try.ntmps39 rfl fun E F => ?_
  (repeat (first | ((with_reducible refine Tr.step rfl ?_); (first | (refine xmQ (z := ?_)) | (refine xaQ (z := ?_)))) | (with_reducible first | apply Tr.next | apply Tr.seq | apply Tr.region | apply Tr.nil)))
  ((refine Tr.step rfl ?_)); refine Exec.call0 rfl (indexS_fn M A c l hl f cap G hG) rfl ?_
  rintro _ _ _ ⟨⟨z, rfl, hz⟩, rfl⟩
  (repeat (first | ((with_reducible refine Tr.step rfl ?_); (first | (refine xaQ (z := ?_)) | (refine xiQ (z := ?_)))) | (with_reducible first | apply Tr.next | apply Tr.nil | apply Tr.ret)))
  (refine dnQ (hL := by exact ⟨[], rfl⟩) (k := ⟨rfl, ?_⟩))
  exact ⟨by rw [← hz]; rfl, rfl⟩
set_option maxHeartbeats 2000000 in
theorem indexR_fn (M : Mem) (A : Option Addr) (c : Nat) (l : List Rq) (hl : SlOf 6 RRqC M (.slice A l.length c) l) (f : FuncId) (cap : List Value) (G : Rq → Bool) (hG : ∀ r ∈ l, Fn0 Try.prog f ([.agg #[.int .i64 r.no, .int .i64 r.item, .int .i64 r.cust, .int .i64 r.due, .int .i64 r.shelf, .int .i64 r.amount]] ++ cap) M (fun v M' => v = .bool (G r) ∧ M = M')) :
    Fn0 Try.prog 74 [.slice A l.length c, .func (.func f) #[] cap.toArray] M (fun r M' => (∃ z : Int, r = .int .i64 z ∧ decide (0 ≤ z) = l.any G) ∧ M = M') := by
  have hll := hl.len_le
  refine Fn.intro Try.func74 rfl rfl Try.ntmps74 rfl fun E F => ?_
  (repeat (first | ((with_reducible refine Tr.step rfl ?_); (first | (refine xmQ (z := ?_)) | (refine xaQ (z := ?_)) | (refine xnQ (z := ?_)))) | (with_reducible first | apply Tr.next | apply Tr.seq | apply Tr.region | apply Tr.nil | apply Tr.block)))
  refine Tr.loop (α := Nat) (fun i => ⟨19, [(8, .int .i64 i), (7, .int .i64 l.length), (0, .slice A l.length c), (1, .func (.func f) #[] cap.toArray)], [], M, [] ++ F⟩) (fun i => i ≤ l.length ∧ (l.take i).any G = false) (fun i => l.length - i) 0 ⟨by simp, by simp⟩ hsQ (fun i hi => ?_)
  obtain ⟨hi, hany⟩ := hi
  by_cases hlt : i < l.length
  · obtain ⟨r, hx⟩ := get_of_lt hlt
    obtain ⟨hA, ch, hat, rfl⟩ := hl.elem hx
    simp only [rqC] at hat
    have hg := hG r (List.mem_of_getElem? hx)
    have htake : (l.take (i + 1)).any G = ((l.take i).any G || G r) := by rw [List.take_add_one, hx]; simp
    (repeat (first | ((with_reducible refine Tr.step rfl ?_); (first | (refine xmQ (z := ?_)) | (refine xaQ (z := ?_)) | ((with_reducible refine Knd.load ?_); (refine Exec.stab rfl (Stab.loadMA rfl (tysOk.get rfl) rfl (by assumption) (by first | rfl | assumption)) rfl ?_)) | (refine xiQ (z := ?_)) | (refine xxQ (z := ?_)))) | (with_reducible first | apply Tr.next | apply Tr.seq | apply Tr.region | apply Tr.nil | apply Tr.skip | apply Tr.block) | (refine Tr.cond_t rfl (by first | (with_reducible assumption) | (with_reducible rfl) | (with_reducible exact (not_not_intro rfl)) | omega) ?_)))
    ((refine Tr.step rfl ?_))
    refine Exec.callv (A := []) (first := []) (cap := cap) rfl rfl hg (List.Perm.refl _) rfl ?_
    rintro _ _ _ _ ⟨rfl, rfl, rfl⟩
    cases hGx : G r
    · rw [hGx] at htake
      (repeat (first | ((with_reducible refine Tr.step rfl ?_); (first | (refine xmQ (z := ?_)) | (refine xdQ (z := ?_)))) | (with_reducible first | apply Tr.next | apply Tr.region | apply Tr.nil | apply Tr.skip | apply Tr.in_normal) | (refine Tr.cond_bf rfl (by first | (with_reducible rfl) | (with_reducible assumption) | (with_reducible exact Bool.not_true) | (with_reducible exact Bool.not_false)) ?_)))
      refine Tr.again (i + 1) ⟨hlt, by rw [htake, hany]; rfl⟩ (by omega) hsQ
    · (repeat (first | ((with_reducible refine Tr.step rfl ?_); (first | (refine xmQ (z := ?_)) | (refine xaQ (z := ?_)))) | (with_reducible first | apply Tr.next | apply Tr.seq | apply Tr.region | apply Tr.nil | apply Tr.ret | apply Tr.then_ret | apply Tr.in_ret) | (refine Tr.cond_bt rfl (by first | (with_reducible rfl) | (with_reducible assumption) | (with_reducible exact Bool.not_true) | (with_reducible exact Bool.not_false)) ?_)))
      (refine dnQ (hL := by exact ⟨[], rfl⟩) (k := ⟨rfl, ?_⟩))
      refine ⟨⟨i, rfl, ?_⟩, rfl⟩
      have : l.any G = true := List.any_eq_true.2 ⟨r, List.mem_of_getElem? hx, hGx⟩
      rw [this]; simp
  · have e : i = l.length := by omega
    subst e
    rw [List.take_length] at hany
    (repeat (first | ((with_reducible refine Tr.step rfl ?_); (first | (refine xaQ (z := ?_)) | (refine xiQ (z := ?_)))) | (with_reducible first | apply Tr.next | apply Tr.seq | apply Tr.region | apply Tr.nil | apply Tr.exit | apply Tr.ret | apply Tr.then_exit) | ((with_reducible refine Tr.in_exit ?_ ?_); (exact rfl)) | (refine Tr.cond_f rfl (by first | (with_reducible assumption) | (with_reducible rfl) | (with_reducible exact (not_not_intro rfl)) | omega) ?_)))
    (refine dnQ (hL := by exact ⟨[], rfl⟩) (k := ⟨rfl, ?_⟩))
    exact ⟨⟨-1, rfl, by rw [hany]; rfl⟩, rfl⟩
set_option maxHeartbeats 1000000 in
theorem containsR_fn (M : Mem) (A : Option Addr) (c : Nat) (l : List Rq) (hl : SlOf 6 RRqC M (.slice A l.length c) l) (f : FuncId) (cap : List Value) (G : Rq → Bool) (hG : ∀ r ∈ l, Fn0 Try.prog f ([.agg #[.int .i64 r.no, .int .i64 r.item, .int .i64 r.cust, .int .i64 r.due, .int .i64 r.shelf, .int .i64 r.amount]] ++ cap) M (fun v M' => v = .bool (G r) ∧ M = M')) :
    Fn0 Try.prog 42 [.slice A l.length c, .func (.func f) #[] cap.toArray] M (fun r M' => r = .bool (l.any G) ∧ M = M') := by
  refine Fn.intro Try.func42 rfl rfl Try.ntmps42 rfl fun E F => ?_
  (repeat (first | ((with_reducible refine Tr.step rfl ?_); (first | (refine xmQ (z := ?_)) | (refine xaQ (z := ?_)))) | (with_reducible first | apply Tr.next | apply Tr.seq | apply Tr.region | apply Tr.nil)))
  ((refine Tr.step rfl ?_)); refine Exec.call0 rfl (indexR_fn M A c l hl f cap G hG) rfl ?_
  rintro _ _ _ ⟨⟨z, rfl, hz⟩, rfl⟩
  (repeat (first | ((with_reducible refine Tr.step rfl ?_); (first | (refine xaQ (z := ?_)) | (refine xiQ (z := ?_)))) | (with_reducible first | apply Tr.next | apply Tr.nil | apply Tr.ret)))
  (refine dnQ (hL := by exact ⟨[], rfl⟩) (k := ⟨rfl, ?_⟩))
  exact ⟨by rw [← hz]; rfl, rfl⟩
set_option maxHeartbeats 4000000 in
theorem cloneSp_fn (M : Mem) (A : Option Addr) (c : Nat) (l : List Sp) (hl : SlOf 6 RSpC M (.slice A l.length c) l) (hs : l.length ≤ 1000000) :
    Bf.Fn Try.prog 66 [.slice A l.length c] M [] (fun r M' A' => (∃ B k, r = .slice B l.length k ∧ k ≤ 9223372036854775807 ∧ A' = [ownS 77 6 B l.length k (l.flatMap spC)]) ∧ M = M') := by
  have hrow := SlOf.row hl (fun _ _ h => h) spC_len
  have hcap := SlOf.cells hl
  refine Fn.intro Try.func66 rfl rfl Try.ntmps66 rfl fun E F => ?_
  by_cases hA : A = none
  · obtain ⟨-, -, -, -, hnil, -⟩ := hcap
    have hnil : l = [] := List.eq_nil_of_length_eq_zero (hnil hA)
    subst hnil
    (repeat (first | ((with_reducible refine Tr.step rfl ?_); (first | (refine xmQ (z := ?_)) | (refine xaQ (z := ?_)) | ((with_reducible refine Knd.binOp ?_); (refine Exec.stab rfl (Stab.slnil rfl (tysOk.get rfl) rfl) rfl ?_)))) | (with_reducible first | apply Tr.next | apply Tr.seq | apply Tr.region | apply Tr.nil | apply Tr.ret | apply Tr.then_ret) | (refine Tr.cond_t rfl (by first | (with_reducible assumption) | (with_reducible rfl) | (with_reducible exact (not_not_intro rfl)) | omega) ?_)))
    refine Tr.own_nil 77 6 ?_
    refine Tr.doneA (A' := [ownS 77 6 none 0 0 []]) (by first | exact .inl rfl | exact .inr rfl) rfl (by repeat (first | exact RVs.nil | (apply RVs.cons; (exact RV.tmp rfl)))) (Mem.le.refl _) ⟨fun _ h => h, fun h => h⟩ ⟨⟨none, 0, rfl, by omega, rfl⟩, rfl⟩
  · (repeat (first | ((with_reducible refine Tr.step rfl ?_); (first | (refine xmQ (z := ?_)) | (refine xaQ (z := ?_)) | ((with_reducible refine Knd.binOp ?_); (refine Exec.stab rfl (Stab.slnil rfl (tysOk.get rfl) rfl) rfl ?_)) | ((with_reducible refine Knd.buildSlice ?_); (refine Exec.buildSlice (tysOk.get rfl) rfl (tysOk.get rfl) rfl rfl rfl rfl rfl (by repeat (first | exact BuildP.nil | ((apply BuildP.one); (rfl); (rfl); (first | rfl | assumption); (repeat (first | exact SetL.z | apply SetL.s))) | ((apply BuildP.many); (rfl); (rfl); (rfl); (rfl); (repeat (first | exact PutL.nil | ((apply PutL.cons); (repeat (first | exact SetL.z | apply SetL.s)))))))) rfl (fun b => ?_))))) | (with_reducible first | apply Tr.next | apply Tr.seq | apply Tr.region | apply Tr.nil | apply Tr.skip) | (refine Tr.cond_f rfl (by first | (with_reducible assumption) | (with_reducible rfl) | (with_reducible exact (not_not_intro rfl)) | omega) ?_)))
    refine Tr.box_own 6 0 (by repeat (first | exact Upd.here | apply Upd.there)) rfl (by intro u hu; cases hu) (by simp [maxLen]) ?_
    ((refine Tr.step rfl ?_))
    refine Exec.append (news := l.flatMap spC) rfl rfl (tysOk.get rfl) rfl (tysOk.get rfl) rfl rfl rfl rfl (by repeat (first | exact Del.here | apply Del.there)) (Src.row hrow) (flatMap_len spC_len _) (flatMap_one spC_one _) (by omega) (by omega) rfl (fun A6 c6 hc6 => ?_)
    rw [Nat.zero_add]
    (repeat (first | ((with_reducible refine Tr.step rfl ?_); (with_reducible refine Knd.assign ?_); (refine xaQ (z := ?_))) | (with_reducible first | apply Tr.next | apply Tr.nil | apply Tr.ret)))
    refine Tr.doneA (A' := [ownS 77 6 A6 l.length c6 (l.flatMap spC)]) (by first | exact .inl rfl | exact .inr rfl) rfl (by repeat (first | exact RVs.nil | (apply RVs.cons; (exact RV.tmp rfl)))) (Mem.le.refl _) ⟨fun _ h => h, fun h => h⟩ ⟨⟨A6, c6, rfl, hc6, rfl⟩, rfl⟩
set_option maxHeartbeats 4000000 in
theorem cloneRq_fn (M : Mem) (A : Option Addr) (c : Nat) (l : List Rq) (hl : SlOf 6 RRqC M (.slice A l.length c) l) (hs : l.length ≤ 1000000) :
    Bf.Fn Try.prog 18 [.slice A l.length c] M [] (fun r M' A' => (∃ B k, r = .slice B l.length k ∧ k ≤ 9223372036854775807 ∧ A' = [ownS 46 6 B l.length k (l.flatMap rqC)]) ∧ M = M') := by
  have hrow := SlOf.row hl (fun _ _ h => h) rqC_len
  have hcap := SlOf.cells hl
  refine Fn.intro Try.func18 rfl rfl Try.ntmps18 rfl fun E F => ?_
  by_cases hA : A = none
  · obtain ⟨-, -, -, -, hnil, -⟩ := hcap
    have hnil : l = [] := List.eq_nil_of_length_eq_zero (hnil hA)
    subst hnil
    (repeat (first | ((with_reducible refine Tr.step rfl ?_); (first | (refine xmQ (z := ?_)) | (refine xaQ (z := ?_)) | ((with_reducible refine Knd.binOp ?_); (refine Exec.stab rfl (Stab.slnil rfl (tysOk.get rfl) rfl) rfl ?_)))) | (with_reducible first | apply Tr.next | apply Tr.seq | apply Tr.region | apply Tr.nil | apply Tr.ret | apply Tr.then_ret) | (refine Tr.cond_t rfl (by first | (with_reducible assumption) | (with_reducible rfl) | (with_reducible exact (not_not_intro rfl)) | omega) ?_)))
    refine Tr.own_nil 46 6 ?_
    refine Tr.doneA (A' := [ownS 46 6 none 0 0 []]) (by first | exact .inl rfl | exact .inr rfl) rfl (by repeat (first | exact RVs.nil | (apply RVs.cons; (exact RV.tmp rfl)))) (Mem.le.refl _) ⟨fun _ h => h, fun h => h⟩ ⟨⟨none, 0, rfl, by omega, rfl⟩, rfl⟩
  · (repeat (first | ((with_reducible refine Tr.step rfl ?_); (first | (refine xmQ (z := ?_)) | (refine xaQ (z := ?_)) | ((with_reducible refine Knd.binOp ?_); (refine Exec.stab rfl (Stab.slnil rfl (tysOk.get rfl) rfl) rfl ?_)) | ((with_reducible refine Knd.buildSlice ?_); (refine Exec.buildSlice (tysOk.get rfl) rfl (tysOk.get rfl) rfl rfl rfl rfl rfl (by repeat (first | exact BuildP.nil | ((apply BuildP.one); (rfl); (rfl); (first | rfl | assumption); (repeat (first | exact SetL.z | apply SetL.s))) | ((apply BuildP.many); (rfl); (rfl); (rfl); (rfl); (repeat (first | exact PutL.nil | ((apply PutL.cons); (repeat (first | exact SetL.z | apply SetL.s)))))))) rfl (fun b => ?_))))) | (with_reducible first | apply Tr.next | apply Tr.seq | apply Tr.region | apply Tr.nil | apply Tr.skip) | (refine Tr.cond_f rfl (by first | (with_reducible assumption) | (with_reducible rfl) | (with_reducible exact (not_not_intro rfl)) | omega) ?_)))
    refine Tr.box_own 6 0 (by repeat (first | exact Upd.here | apply Upd.there)) rfl (by intro u hu; cases hu) (by simp [maxLen]) ?_
    ((refine Tr.step rfl ?_))
    refine Exec.append (news := l.flatMap rqC) rfl rfl (tysOk.get rfl) rfl (tysOk.get rfl) rfl rfl rfl rfl (by repeat (first | exact Del.here | apply Del.there)) (Src.row hrow) (flatMap_len rqC_len _) (flatMap_one rqC_one _) (by omega) (by omega) rfl (fun A6 c6 hc6 => ?_)
    rw [Nat.zero_add]
    (repeat (first | ((with_reducible refine Tr.step rfl ?_); (with_reducible refine Knd.assign ?_); (refine xaQ (z := ?_))) | (with_reducible first | apply Tr.next | apply Tr.nil | apply Tr.ret)))
    refine Tr.doneA (A' := [ownS 46 6 A6 l.length c6 (l.flatMap rqC)]) (by first | exact .inl rfl | exact .inr rfl) rfl (by repeat (first | exact RVs.nil | (apply RVs.cons; (exact RV.tmp rfl)))) (Mem.le.refl _) ⟨fun _ h => h, fun h => h⟩ ⟨⟨A6, c6, rfl, hc6, rfl⟩, rfl⟩
set_option maxHeartbeats 4000000 in
theorem cloneKy_fn (M : Mem) (A : Option Addr) (c : Nat) (l : List Ky) (hl : SlOf 3 RKy M (.slice A l.length c) l) (hs : l.length ≤ 1000000) :
    Bf.Fn Try.prog 35 [.slice A l.length c] M [] (fun r M' A' => (∃ B k, r = .slice B l.length k ∧ k ≤ 9223372036854775807 ∧ A' = [ownS 71 3 B l.length k (l.flatMap kyC)]) ∧ M = M') := by
  have hrow := SlOf.row hl (fun _ _ h => h) kyC_len
  have hcap := SlOf.cells hl
  refine Fn.intro Try.func35 rfl rfl Try.ntmps35 rfl fun E F => ?_
  by_cases hA : A = none
  · obtain ⟨-, -, -, -, hnil, -⟩ := hcap
    have hnil : l = [] := List.eq_nil_of_length_eq_zero (hnil hA)
    subst hnil
    (repeat (first | ((with_reducible refine Tr.step rfl ?_); (first | (refine xmQ (z := ?_)) | (refine xaQ (z := ?_)) | ((with_reducible refine Knd.binOp ?_); (refine Exec.stab rfl (Stab.slnil rfl (tysOk.get rfl) rfl) rfl ?_)))) | (with_reducible first | apply Tr.next | apply Tr.seq | apply Tr.region | apply Tr.nil | apply Tr.ret | apply Tr.then_ret) | (refine Tr.cond_t rfl (by first | (with_reducible assumption) | (with_reducible rfl) | (with_reducible exact (not_not_intro rfl)) | omega) ?_)))
    refine Tr.own_nil 71 3 ?_
    refine Tr.doneA (A' := [ownS 71 3 none 0 0 []]) (by first | exact .inl rfl | exact .inr rfl) rfl (by repeat (first | exact RVs.nil | (apply RVs.cons; (exact RV.tmp rfl)))) (Mem.le.refl _) ⟨fun _ h => h, fun h => h⟩ ⟨⟨none, 0, rfl, by omega, rfl⟩, rfl⟩
  · (repeat (first | ((with_reducible refine Tr.step rfl ?_); (first | (refine xmQ (z := ?_)) | (refine xaQ (z := ?_)) | ((with_reducible refine Knd.binOp ?_); (refine Exec.stab rfl (Stab.slnil rfl (tysOk.get rfl) rfl) rfl ?_)) | ((with_reducible refine Knd.buildSlice ?_); (refine Exec.buildSlice (tysOk.get rfl) rfl (tysOk.get rfl) rfl rfl rfl rfl rfl (by repeat (first | exact BuildP.nil | ((apply BuildP.one); (rfl); (rfl); (first | rfl | assumption); (repeat (first | exact SetL.z | apply SetL.s))) | ((apply BuildP.many); (rfl); (rfl); (rfl); (rfl); (repeat (first | exact PutL.nil | ((apply PutL.cons); (repeat (first | exact SetL.z | apply SetL.s)))))))) rfl (fun b => ?_))))) | (with_reducible first | apply Tr.next | apply Tr.seq | apply Tr.region | apply Tr.nil | apply Tr.skip) | (refine Tr.cond_f rfl (by first | (with_reducible assumption) | (with_reducible rfl) | (with_reducible exact (not_not_intro rfl)) | omega) ?_)))
    refine Tr.box_own 3 0 (by repeat (first | exact Upd.here | apply Upd.there)) rfl (by intro u hu; cases hu) (by simp [maxLen]) ?_
    ((refine Tr.step rfl ?_))
    refine Exec.append (news := l.flatMap kyC) rfl rfl (tysOk.get rfl) rfl (tysOk.get rfl) rfl rfl rfl rfl (by repeat (first | exact Del.here | apply Del.there)) (Src.row hrow) (flatMap_len kyC_len _) (flatMap_one kyC_one _) (by omega) (by omega) rfl (fun A6 c6 hc6 => ?_)
    rw [Nat.zero_add]
    (repeat (first | ((with_reducible refine Tr.step rfl ?_); (with_reducible refine Knd.assign ?_); (refine xaQ (z := ?_))) | (with_reducible first | apply Tr.next | apply Tr.nil | apply Tr.ret)))
    refine Tr.doneA (A' := [ownS 71 3 A6 l.length c6 (l.flatMap kyC)]) (by first | exact .inl rfl | exact .inr rfl) rfl (by repeat (first | exact RVs.nil | (apply RVs.cons; (exact RV.tmp rfl)))) (Mem.le.refl _) ⟨fun _ h => h, fun h => h⟩ ⟨⟨A6, c6, rfl, hc6, rfl⟩, rfl⟩
set_option maxHeartbeats 2000000 in
theorem equalRd_fn (M : Mem) (p q : List Rd) (A B : Option Addr) (c k : Nat) (hp : SlOf 5 RRd M (.slice A p.length c) p) (hq : SlOf 5 RRd M (.slice B q.length k) q) : Fn0 Try.prog 60 [.slice A p.length c, .slice B q.length k] M (fun r M' => (∃ b : Bool, r = .bool b ∧ (b = true ↔ p = q)) ∧ M = M') := by
  have l1 := hp.len_le
  have l2 := hq.len_le
  refine Fn.intro Try.func60 rfl rfl Try.ntmps60 rfl fun E F => ?_
  by_cases hl : p.length = q.length
  rotate_left
  · (repeat (first | ((with_reducible refine Tr.step rfl ?_); (first | (refine xmQ (z := ?_)) | (refine xaQ (z := ?_)) | (refine xnQ (z := ?_)) | (refine xiQ (z := ?_)))) | (with_reducible first | apply Tr.next | apply Tr.seq | apply Tr.region | apply Tr.nil | apply Tr.ret | apply Tr.then_ret) | (refine Tr.cond_t rfl (by first | (with_reducible assumption) | (with_reducible rfl) | (with_reducible exact (not_not_intro rfl)) | omega) ?_)))
    (refine dnQ (hL := by exact ⟨[], rfl⟩) (k := ⟨rfl, ?_⟩))
    exact ⟨⟨false, rfl, by simp; intro h; exact hl (congrArg _ h)⟩, rfl⟩
  (repeat (first | ((with_reducible refine Tr.step rfl ?_); (first | (refine xmQ (z := ?_)) | (refine xaQ (z := ?_)) | (refine xnQ (z := ?_)) | (refine xiQ (z := ?_)))) | (with_reducible first | apply Tr.next | apply Tr.seq | apply Tr.region | apply Tr.nil | apply Tr.skip | apply Tr.block) | (refine Tr.cond_f rfl (by first | (with_reducible assumption) | (with_reducible rfl) | (with_reducible exact (not_not_intro rfl)) | omega) ?_)))
  refine Tr.loop (α := Nat) (fun i => ⟨26, [(13, .int .i64 (i : Int)), (12, .int .i64 p.length), (0, .slice A p.length c), (1, .slice B q.length k)], [], M, [] ++ F⟩) (fun i => i ≤ p.length ∧ p.take i = q.take i) (fun i => p.length - i) 0 ⟨by simp, by simp⟩ hsQ (fun i hi => ?_)
  obtain ⟨hi, heq⟩ := hi
  by_cases hlt : i < p.length
  · obtain ⟨x, hx⟩ := get_of_lt hlt
    obtain ⟨y, hy⟩ := get_of_lt (xs := q) (i := i) (by omega)
    obtain ⟨hA, ch1, hat, rfl⟩ := hp.elem hx
    obtain ⟨hB, ch2, hbt, rfl⟩ := hq.elem hy
    simp only [rdC] at hat hbt
    have hxy : x = y ↔ [x.1.1, x.1.2.1, x.1.2.2, x.2.1, x.2.2] = [y.1.1, y.1.2.1, y.1.2.2, y.2.1, y.2.2] := by
      obtain ⟨⟨a1, a2, a3⟩, a4, a5⟩ := x
      obtain ⟨⟨b1, b2, b3⟩, b4, b5⟩ := y
      simp [and_assoc]
    by_cases hk : [x.1.1, x.1.2.1, x.1.2.2, x.2.1, x.2.2] ≠ [y.1.1, y.1.2.1, y.1.2.2, y.2.1, y.2.2]
    · (repeat (first | ((with_reducible refine Tr.step rfl ?_); (first | (refine xmQ (z := ?_)) | (refine xaQ (z := ?_)) | (refine xiQ (z := ?_)))) | (with_reducible first | apply Tr.next | apply Tr.seq | apply Tr.region | apply Tr.nil | apply Tr.skip | apply Tr.block) | (refine Tr.cond_t rfl (by first | (with_reducible assumption) | (with_reducible rfl) | (with_reducible exact (not_not_intro rfl)) | omega) ?_)))
      (((apply Tr.draw); (kernel_rfl)); (refine tkQ 0 (hB := by exact fun _ h => h) (s := by exact Stab.move rfl) (h := ?_)); (refine tkQ 1 (s := by exact Stab.move rfl) (h := ?_)); (refine tkQ 4 (s := by exact Stab.move rfl) (h := ?_)); (refine tkQ 5 (s := by exact Stab.move rfl) (h := ?_)); (refine tkQ 2 (s := by exact sxQ) (h := ?_)); (refine tkQ 6 (s := by exact sxQ) (h := ?_)); (refine tkQ 3 (s := by exact Stab.loadMA rfl (tysOk.get rfl) rfl (by assumption) (by first | rfl | assumption)) (h := ?_)); (refine tkQ 7 (s := by exact Stab.loadMA rfl (tysOk.get rfl) rfl (by assumption) (by first | rfl | assumption)) (h := ?_)); (refine tkQ 8 (s := by exact Stab.stneL rfl rfl (by repeat (first | exact IntsL.nil | apply IntsL.cons)) (by repeat (first | exact IntsL.nil | apply IntsL.cons)) (tysOk.get rfl) rfl (by kernel_rfl) (by kernel_rfl) rfl rfl) (h := ?_)); (refine TrA.done (by kernel_rfl) ?_))
      (repeat (first | ((with_reducible refine Tr.step rfl ?_); (with_reducible refine Knd.assign ?_); (refine xaQ (z := ?_))) | (with_reducible first | apply Tr.next | apply Tr.seq | apply Tr.region | apply Tr.nil | apply Tr.ret | apply Tr.then_ret | apply Tr.in_ret) | (refine Tr.cond_t rfl (by first | (with_reducible assumption) | (with_reducible rfl) | (with_reducible exact (not_not_intro rfl)) | omega) ?_)))
      (refine dnQ (hL := by exact ⟨[], rfl⟩) (k := ⟨rfl, ?_⟩))
      exact ⟨⟨false, rfl, by simp; intro h; rw [h, hy] at hx; cases hx; exact hk rfl⟩, rfl⟩
    · (repeat (first | ((with_reducible refine Tr.step rfl ?_); (first | (refine xmQ (z := ?_)) | (refine xaQ (z := ?_)) | (refine xiQ (z := ?_)))) | (with_reducible first | apply Tr.next | apply Tr.seq | apply Tr.region | apply Tr.nil | apply Tr.skip | apply Tr.block) | (refine Tr.cond_t rfl (by first | (with_reducible assumption) | (with_reducible rfl) | (with_reducible exact (not_not_intro rfl)) | omega) ?_)))
      (((apply Tr.draw); (kernel_rfl)); (refine tkQ 0 (hB := by exact fun _ h => h) (s := by exact Stab.move rfl) (h := ?_)); (refine tkQ 1 (s := by exact Stab.move rfl) (h := ?_)); (refine tkQ 4 (s := by exact Stab.move rfl) (h := ?_)); (refine tkQ 5 (s := by exact Stab.move rfl) (h := ?_)); (refine tkQ 2 (s := by exact sxQ) (h := ?_)); (refine tkQ 6 (s := by exact sxQ) (h := ?_)); (refine tkQ 3 (s := by exact Stab.loadMA rfl (tysOk.get rfl) rfl (by assumption) (by first | rfl | assumption)) (h := ?_)); (refine tkQ 7 (s := by exact Stab.loadMA rfl (tysOk.get rfl) rfl (by assumption) (by first | rfl | assumption)) (h := ?_)); (refine tkQ 8 (s := by exact Stab.stneL rfl rfl (by repeat (first | exact IntsL.nil | apply IntsL.cons)) (by repeat (first | exact IntsL.nil | apply IntsL.cons)) (tysOk.get rfl) rfl (by kernel_rfl) (by kernel_rfl) rfl rfl) (h := ?_)); (refine TrA.done (by kernel_rfl) ?_))
      (repeat (first | ((with_reducible refine Tr.step rfl ?_); (first | (refine xmQ (z := ?_)) | (refine xdQ (z := ?_)))) | (with_reducible first | apply Tr.next | apply Tr.region | apply Tr.nil | apply Tr.skip | apply Tr.in_normal) | (refine Tr.cond_f rfl (by first | (with_reducible assumption) | (with_reducible rfl) | (with_reducible exact (not_not_intro rfl)) | omega) ?_)))
      refine Tr.again (i + 1) ⟨by omega, by rw [List.take_add_one, List.take_add_one, hx, hy, heq, hxy.2 (Classical.not_not.1 hk)]⟩ (by omega) hsQ
  · have e : i = p.length := by omega
    subst e
    rw [List.take_length, hl, List.take_length] at heq
    (repeat (first | ((with_reducible refine Tr.step rfl ?_); (first | (refine xaQ (z := ?_)) | (refine xiQ (z := ?_)))) | (with_reducible first | apply Tr.next | apply Tr.seq | apply Tr.region | apply Tr.nil | apply Tr.exit | apply Tr.ret | apply Tr.then_exit) | ((with_reducible refine Tr.in_exit ?_ ?_); (exact rfl)) | (refine Tr.cond_f rfl (by first | (with_reducible assumption) | (with_reducible rfl) | (with_reducible exact (not_not_intro rfl)) | omega) ?_)))
    (refine dnQ (hL := by exact ⟨[], rfl⟩) (k := ⟨rfl, ?_⟩))
    exact ⟨⟨true, rfl, by simpa using heq⟩, rfl⟩
set_option maxHeartbeats 2000000 in
theorem equalBo_fn (M : Mem) (p q : List Bool) (A B : Option Addr) (c k : Nat) (hp : Bools M (.slice A p.length c) p) (hq : Bools M (.slice B q.length k) q) : Fn0 Try.prog 85 [.slice A p.length c, .slice B q.length k] M (fun r M' => (∃ b : Bool, r = .bool b ∧ (b = true ↔ p = q)) ∧ M = M') := by
  have l1 := hp.len_le
  have l2 := hq.len_le
  refine Fn.intro Try.func85 rfl rfl Try.ntmps85 rfl fun E F => ?_
  by_cases hl : p.length = q.length
  rotate_left
  · (repeat (first | ((with_reducible refine Tr.step rfl ?_); (first | (refine xmQ (z := ?_)) | (refine xaQ (z := ?_)) | (refine xnQ (z := ?_)) | (refine xiQ (z := ?_)))) | (with_reducible first | apply Tr.next | apply Tr.seq | apply Tr.region | apply Tr.nil | apply Tr.ret | apply Tr.then_ret) | (refine Tr.cond_t rfl (by first | (with_reducible assumption) | (with_reducible rfl) | (with_reducible exact (not_not_intro rfl)) | omega) ?_)))
    (refine dnQ (hL := by exact ⟨[], rfl⟩) (k := ⟨rfl, ?_⟩))
    exact ⟨⟨false, rfl, by simp; intro h; exact hl (congrArg _ h)⟩, rfl⟩
  (repeat (first | ((with_reducible refine Tr.step rfl ?_); (first | (refine xmQ (z := ?_)) | (refine xaQ (z := ?_)) | (refine xnQ (z := ?_)) | (refine xiQ (z := ?_)))) | (with_reducible first | apply Tr.next | apply Tr.seq | apply Tr.region | apply Tr.nil | apply Tr.skip | apply Tr.block) | (refine Tr.cond_f rfl (by first | (with_reducible assumption) | (with_reducible rfl) | (with_reducible exact (not_not_intro rfl)) | omega) ?_)))
  refine Tr.loop (α := Nat) (fun i => ⟨26, [(13, .int .i64 (i : Int)), (12, .int .i64 p.length), (0, .slice A p.length c), (1, .slice B q.length k)], [], M, [] ++ F⟩) (fun i => i ≤ p.length ∧ p.take i = q.take i) (fun i => p.length - i) 0 ⟨by simp, by simp⟩ hsQ (fun i hi => ?_)
  obtain ⟨hi, heq⟩ := hi
  by_cases hlt : i < p.length
  · obtain ⟨x, hx⟩ := get_of_lt hlt
    obtain ⟨y, hy⟩ := get_of_lt (xs := q) (i := i) (by omega)
    obtain ⟨hA, hat⟩ := hp.at hx
    obtain ⟨hB, hbt⟩ := hq.at hy
    by_cases hxy : ¬ x = y
    · (repeat (first | ((with_reducible refine Tr.step rfl ?_); (first | (refine xmQ (z := ?_)) | (refine xaQ (z := ?_)) | (refine xiQ (z := ?_)))) | (with_reducible first | apply Tr.next | apply Tr.seq | apply Tr.region | apply Tr.nil | apply Tr.skip | apply Tr.block) | (refine Tr.cond_t rfl (by first | (with_reducible assumption) | (with_reducible rfl) | (with_reducible exact (not_not_intro rfl)) | omega) ?_)))
      (((apply Tr.draw); (kernel_rfl)); (refine tkQ 0 (hB := by exact fun _ h => h) (s := by exact Stab.move rfl) (h := ?_)); (refine tkQ 1 (s := by exact Stab.move rfl) (h := ?_)); (refine tkQ 4 (s := by exact Stab.move rfl) (h := ?_)); (refine tkQ 5 (s := by exact Stab.move rfl) (h := ?_)); (refine tkQ 2 (s := by exact sxQ) (h := ?_)); (refine tkQ 6 (s := by exact sxQ) (h := ?_)); (refine tkQ 3 (s := by exact sMQ) (h := ?_)); (refine tkQ 7 (s := by exact sMQ) (h := ?_)); (refine tkQ 8 (s := by exact Stab.boolne rfl rfl (tysOk.get rfl) rfl) (h := ?_)); (refine TrA.done (by kernel_rfl) ?_))
      (repeat (first | ((with_reducible refine Tr.step rfl ?_); (with_reducible refine Knd.assign ?_); (refine xaQ (z := ?_))) | (with_reducible first | apply Tr.next | apply Tr.seq | apply Tr.region | apply Tr.nil | apply Tr.ret | apply Tr.then_ret | apply Tr.in_ret) | (refine Tr.cond_t rfl (by first | (with_reducible assumption) | (with_reducible rfl) | (with_reducible exact (not_not_intro rfl)) | omega) ?_)))
      (refine dnQ (hL := by exact ⟨[], rfl⟩) (k := ⟨rfl, ?_⟩))
      exact ⟨⟨false, rfl, by simp; intro h; rw [h, hy] at hx; cases hx; exact hxy rfl⟩, rfl⟩
    · (repeat (first | ((with_reducible refine Tr.step rfl ?_); (first | (refine xmQ (z := ?_)) | (refine xaQ (z := ?_)) | (refine xiQ (z := ?_)))) | (with_reducible first | apply Tr.next | apply Tr.seq | apply Tr.region | apply Tr.nil | apply Tr.skip | apply Tr.block) | (refine Tr.cond_t rfl (by first | (with_reducible assumption) | (with_reducible rfl) | (with_reducible exact (not_not_intro rfl)) | omega) ?_)))
      (((apply Tr.draw); (kernel_rfl)); (refine tkQ 0 (hB := by exact fun _ h => h) (s := by exact Stab.move rfl) (h := ?_)); (refine tkQ 1 (s := by exact Stab.move rfl) (h := ?_)); (refine tkQ 4 (s := by exact Stab.move rfl) (h := ?_)); (refine tkQ 5 (s := by exact Stab.move rfl) (h := ?_)); (refine tkQ 2 (s := by exact sxQ) (h := ?_)); (refine tkQ 6 (s := by exact sxQ) (h := ?_)); (refine tkQ 3 (s := by exact sMQ) (h := ?_)); (refine tkQ 7 (s := by exact sMQ) (h := ?_)); (refine tkQ 8 (s := by exact Stab.boolne rfl rfl (tysOk.get rfl) rfl) (h := ?_)); (refine TrA.done (by kernel_rfl) ?_))
      (repeat (first | ((with_reducible refine Tr.step rfl ?_); (first | (refine xmQ (z := ?_)) | (refine xdQ (z := ?_)))) | (with_reducible first | apply Tr.next | apply Tr.region | apply Tr.nil | apply Tr.skip | apply Tr.in_normal) | (refine Tr.cond_f rfl (by first | (with_reducible assumption) | (with_reducible rfl) | (with_reducible exact (not_not_intro rfl)) | omega) ?_)))
      refine Tr.again (i + 1) ⟨by omega, by rw [List.take_add_one, List.take_add_one, hx, hy, heq, Classical.not_not.1 hxy]⟩ (by omega) hsQ
  · have e : i = p.length := by omega
    subst e
    rw [List.take_length, hl, List.take_length] at heq
    (repeat (first | ((with_reducible refine Tr.step rfl ?_); (first | (refine xaQ (z := ?_)) | (refine xiQ (z := ?_)))) | (with_reducible first | apply Tr.next | apply Tr.seq | apply Tr.region | apply Tr.nil | apply Tr.exit | apply Tr.ret | apply Tr.then_exit) | ((with_reducible refine Tr.in_exit ?_ ?_); (exact rfl)) | (refine Tr.cond_f rfl (by first | (with_reducible assumption) | (with_reducible rfl) | (with_reducible exact (not_not_intro rfl)) | omega) ?_)))
    (refine dnQ (hL := by exact ⟨[], rfl⟩) (k := ⟨rfl, ?_⟩))
    exact ⟨⟨true, rfl, by simpa using heq⟩, rfl⟩
theorem sameRows1_fn (M : Mem) (p q : List Bool) (A B : Option Addr) (c k : Nat) (hp : Bools M (.slice A p.length c) p) (hq : Bools M (.slice B q.length k) q) : Fn0 Try.prog 84 [.slice A p.length c, .slice B q.length k] M (fun r M' => (∃ b : Bool, r = .bool b ∧ (b = true ↔ p = q)) ∧ M = M') := by
  refine Fn.intro Try.func84 rfl rfl Try.ntmps84 rfl fun E F => ?_
  (repeat (first | ((with_reducible refine Tr.step rfl ?_); (first | (refine xmQ (z := ?_)) | (refine xaQ (z := ?_)))) | (with_reducible first | apply Tr.next | apply Tr.seq | apply Tr.region | apply Tr.nil)))
  ((refine Tr.step rfl ?_)); refine Exec.call0 rfl (equalBo_fn M p q A B c k hp hq) rfl ?_
  rintro _ _ _ ⟨⟨b, rfl, hb⟩, rfl⟩
  (repeat (first | ((with_reducible refine Tr.step rfl ?_); (with_reducible refine Knd.assign ?_); (refine xaQ (z := ?_))) | (with_reducible first | apply Tr.next | apply Tr.nil | apply Tr.ret)))
  (refine dnQ (hL := by exact ⟨[], rfl⟩) (k := ⟨rfl, ?_⟩))
  exact ⟨⟨b, rfl, hb⟩, rfl⟩
set_option maxHeartbeats 2000000 in
theorem equalRows_fn (M : Mem) (p q : List (List Bool)) (A B : Option Addr) (c k : Nat) (hp : Fits2 M (.slice A p.length c) p) (hq : Fits2 M (.slice B q.length k) q) : Fn0 Try.prog 83 [.slice A p.length c, .slice B q.length k, .func (.func 84) #[] #[]] M (fun r M' => (∃ b : Bool, r = .bool b ∧ (b = true ↔ p = q)) ∧ M = M') := by
  have l1 := hp.len_le
  have l2 := hq.len_le
  refine Fn.intro Try.func83 rfl rfl Try.ntmps83 rfl fun E F => ?_
  by_cases hl : p.length = q.length
  rotate_left
  · (repeat (first | ((with_reducible refine Tr.step rfl ?_); (first | (refine xmQ (z := ?_)) | (refine xaQ (z := ?_)) | (refine xnQ (z := ?_)) | (refine xiQ (z := ?_)))) | (with_reducible first | apply Tr.next | apply Tr.seq | apply Tr.region | apply Tr.nil | apply Tr.ret | apply Tr.then_ret) | (refine Tr.cond_t rfl (by first | (with_reducible assumption) | (with_reducible rfl) | (with_reducible exact (not_not_intro rfl)) | omega) ?_)))
    (refine dnQ (hL := by exact ⟨[], rfl⟩) (k := ⟨rfl, ?_⟩))
    exact ⟨⟨false, rfl, by simp; intro h; exact hl (congrArg _ h)⟩, rfl⟩
  (repeat (first | ((with_reducible refine Tr.step rfl ?_); (first | (refine xmQ (z := ?_)) | (refine xaQ (z := ?_)) | (refine xnQ (z := ?_)) | (refine xiQ (z := ?_)))) | (with_reducible first | apply Tr.next | apply Tr.seq | apply Tr.region | apply Tr.nil | apply Tr.skip | apply Tr.block) | (refine Tr.cond_f rfl (by first | (with_reducible assumption) | (with_reducible rfl) | (with_reducible exact (not_not_intro rfl)) | omega) ?_)))
  refine Tr.loop (α := Nat) (fun i => ⟨32, [(17, .int .i64 (i : Int)), (16, .int .i64 p.length), (15, .slice A p.length c), (1, .slice B q.length k), (2, .func (.func 84) #[] #[])], [], M, [] ++ F⟩) (fun i => i ≤ p.length ∧ p.take i = q.take i) (fun i => p.length - i) 0 ⟨by simp, by simp⟩ hsQ (fun i hi => ?_)
  obtain ⟨hi, heq⟩ := hi
  by_cases hlt : i < p.length
  · obtain ⟨x, hx⟩ := get_of_lt hlt
    obtain ⟨y, hy⟩ := get_of_lt (xs := q) (i := i) (by omega)
    obtain ⟨hA, ch, hat, B1, k1, rfl, hb1⟩ := hp.elem hx
    obtain ⟨hB, ch2, hbt, B2, k2, rfl, hb2⟩ := hq.elem hy
    (repeat (first | ((with_reducible refine Tr.step rfl ?_); (first | (refine xmQ (z := ?_)) | (refine xaQ (z := ?_)) | (refine xMQ (z := ?_)) | (refine xiQ (z := ?_)) | (refine xxQ (z := ?_)))) | (with_reducible first | apply Tr.next | apply Tr.seq | apply Tr.region | apply Tr.nil | apply Tr.skip | apply Tr.block) | (refine Tr.cond_t rfl (by first | (with_reducible assumption) | (with_reducible rfl) | (with_reducible exact (not_not_intro rfl)) | omega) ?_)))
    ((refine Tr.step rfl ?_))
    refine Exec.callv (A := []) (first := []) (cap := []) rfl rfl (sameRows1_fn M x y B1 B2 k1 k2 hb1 hb2) (List.Perm.refl _) rfl ?_
    rintro _ _ _ _ ⟨rfl, ⟨b, rfl, hb⟩, rfl⟩
    cases b with
    | true =>
      (repeat (first | ((with_reducible refine Tr.step rfl ?_); (first | (refine xmQ (z := ?_)) | (refine xdQ (z := ?_)) | ((with_reducible refine Knd.unOp ?_); (refine Exec.stab rfl (Stab.not rfl) rfl ?_)))) | (with_reducible first | apply Tr.next | apply Tr.region | apply Tr.nil | apply Tr.skip | apply Tr.in_normal) | (refine Tr.cond_bf rfl (by first | (with_reducible rfl) | (with_reducible assumption) | (with_reducible exact Bool.not_true) | (with_reducible exact Bool.not_false)) ?_)))
      refine Tr.again (i + 1) ⟨by omega, by rw [List.take_add_one, List.take_add_one, hx, hy, heq, hb.1 rfl]⟩ (by omega) hsQ
    | false =>
      (repeat (first | ((with_reducible refine Tr.step rfl ?_); (first | (refine xaQ (z := ?_)) | ((with_reducible refine Knd.unOp ?_); (refine Exec.stab rfl (Stab.not rfl) rfl ?_)))) | (with_reducible first | apply Tr.next | apply Tr.seq | apply Tr.region | apply Tr.nil | apply Tr.ret | apply Tr.then_ret | apply Tr.in_ret) | (refine Tr.cond_bt rfl (by first | (with_reducible rfl) | (with_reducible assumption) | (with_reducible exact Bool.not_true) | (with_reducible exact Bool.not_false)) ?_)))
      (refine dnQ (hL := by exact ⟨[], rfl⟩) (k := ⟨rfl, ?_⟩))
      exact ⟨⟨false, rfl, by simp; intro h; rw [h, hy] at hx; cases hx; exact absurd (hb.2 rfl) (by simp)⟩, rfl⟩
  · have e : i = p.length := by omega
    subst e
    rw [List.take_length, hl, List.take_length] at heq
    (repeat (first | ((with_reducible refine Tr.step rfl ?_); (first | (refine xaQ (z := ?_)) | (refine xiQ (z := ?_)))) | (with_reducible first | apply Tr.next | apply Tr.seq | apply Tr.region | apply Tr.nil | apply Tr.exit | apply Tr.ret | apply Tr.then_exit) | ((with_reducible refine Tr.in_exit ?_ ?_); (exact rfl)) | (refine Tr.cond_f rfl (by first | (with_reducible assumption) | (with_reducible rfl) | (with_reducible exact (not_not_intro rfl)) | omega) ?_)))
    (refine dnQ (hL := by exact ⟨[], rfl⟩) (k := ⟨rfl, ?_⟩))
    exact ⟨⟨true, rfl, by simpa using heq⟩, rfl⟩
theorem sameRows_fn (M : Mem) (p q : List (List Bool)) (A B : Option Addr) (c k : Nat) (hp : Fits2 M (.slice A p.length c) p) (hq : Fits2 M (.slice B q.length k) q) : Fn0 Try.prog 59 [.slice A p.length c, .slice B q.length k] M (fun r M' => (∃ b : Bool, r = .bool b ∧ (b = true ↔ p = q)) ∧ M = M') := by
  refine Fn.intro Try.func59 rfl rfl Try.ntmps59 rfl fun E F => ?_
  (repeat (first | ((with_reducible refine Tr.step rfl ?_); (first | (refine xmQ (z := ?_)) | (refine xaQ (z := ?_)))) | (with_reducible first | apply Tr.next | apply Tr.seq | apply Tr.region | apply Tr.nil)))
  ((refine Tr.step rfl ?_)); refine Exec.call0 rfl (equalRows_fn M p q A B c k hp hq) rfl ?_
  rintro _ _ _ ⟨⟨b, rfl, hb⟩, rfl⟩
  (repeat (first | ((with_reducible refine Tr.step rfl ?_); (with_reducible refine Knd.assign ?_); (refine xaQ (z := ?_))) | (with_reducible first | apply Tr.next | apply Tr.nil | apply Tr.ret)))
  (refine dnQ (hL := by exact ⟨[], rfl⟩) (k := ⟨rfl, ?_⟩))
  exact ⟨⟨b, rfl, hb⟩, rfl⟩
end Go.Proofs.Ytlifjajcmnkhfaa

/-
  Matching: the contract of without (a problem without some requests).
  Conditions: none.
-/
namespace Go.Proofs.Ytlifjajcmnkhfaa
open Go Bf
attribute [local irreducible] Tr Exec Stab HasTy Go.Addr.add IntKind.wrap
/-- the elements that are not left out -/
def keep {α : Type} (o : Nat → Bool) : List α → Nat → List α
  | [], _ => []
  | x :: l, i => if o i = true then keep o l (i + 1) else x :: keep o l (i + 1)
theorem keep_take {α : Type} (o : Nat → Bool) : ∀ (l : List α) (i k : Nat) (x : α), l[k]? = some x → keep o (l.take (k + 1)) i = keep o (l.take k) i ++ if o (i + k) = true then [] else [x]
  | [], _, _, _, h => by simp at h
  | y :: l, i, 0, x, h => by
    simp at h; subst h
    simp [keep]
  | y :: l, i, k + 1, x, h => by
    have ih := keep_take o l (i + 1) k x (by simpa using h)
    simp only [List.take_succ_cons, keep]
    rw [ih, show i + 1 + k = i + (k + 1) by omega]
    split <;> simp
end Go.Proofs.Ytlifjajcmnkhfaa

/-
  Classes: the contract of Table.
  Conditions: none.
-/
namespace Go.Proofs.Ytlifjajcmnkhfaa
open Go Bf
attribute [local irreducible] Tr Exec Stab HasTy Go.Addr.add IntKind.wrap
theorem boW_elems (M : Mem) (l : List Bool) : Elems 1 RBo M (boV l) l := by
  refine ⟨by simp, fun i x hx => ?_⟩
  show _ = _
  rw [Nat.mul_one, List.take_one, List.head?_drop, boV_get hx]
  rfl
theorem boW_one (l : List Bool) : ∀ u ∈ boV l, u.oneCell' = true := by
  intro u hu
  simp only [boV, List.mem_map] at hu
  obtain ⟨x, _, rfl⟩ := hu
  rfl
/-- reads as keys of a map -/
def rdI (y : Rd) : List Int := [y.1.1, y.1.2.1, y.1.2.2, y.2.1, y.2.2]
theorem rdI_inj {a b : Rd} (h : ints (rdI a) = ints (rdI b)) : a = b := by
  have := ints_inj h
  obtain ⟨⟨a1, a2, a3⟩, a4, a5⟩ := a
  obtain ⟨⟨b1, b2, b3⟩, b4, b5⟩ := b
  simp only [rdI, List.cons.injEq, and_true] at this
  obtain ⟨rfl, rfl, rfl, rfl, rfl⟩ := this
  rfl
/-- what the map of the reads says -/
def MapRd (w : Wd) (known : Int) (es : List MapEntry) (l : List Rd) : Prop := KeysIn (IntsN 5) es ∧ ∀ y : Rd, valV (ints (rdI y)) es = if y ∈ l then some (.bool (refusedF w y known)) else none
theorem MapRd.nil (w : Wd) (known : Int) : MapRd w known [] [] := ⟨KeysIn.nil, fun y => by simp [valV, lookV]⟩
theorem MapRd.add {w : Wd} {known : Int} {es : List MapEntry} {l : List Rd} (h : MapRd w known es l) {y : Rd} (hy : y ∉ l) (cl : Nat) : MapRd w known (updV (ints (rdI y)) (.bool (refusedF w y known)) es cl).1 (addNew l y) := by
  classical
  refine ⟨updV_keys h.1 ⟨rdI y, rfl, rfl⟩, fun z => ?_⟩
  rw [updV_val, h.2 z]
  unfold addNew
  rw [if_neg hy]
  by_cases e : z = y
  · subst e; simp
  · have : ¬ ints (rdI z) = ints (rdI y) := fun h => e (rdI_inj h)
    simp [this, e]
def rdsI (w : Wd) (s : List Sp) (r : List Rq) (i : Nat) : List Rd := readsF w (s.take i) r
def rdsJ (w : Wd) (s : List Sp) (r : List Rq) (i : Nat) (x : Sp) (j : Nat) : List Rd := (looksR w x (r.take j)).foldl addNew (rdsI w s r i)
theorem rdsJ_no {w : Wd} {s : List Sp} {r : List Rq} {i j : Nat} {x : Sp} {y : Rq} (hy : r[j]? = some y) (hc : couldF w x y = false) : rdsJ w s r i x (j + 1) = rdsJ w s r i x j := by
  unfold rdsJ looksR
  rw [List.take_add_one, hy]
  simp [hc]
theorem rdsJ_yes {w : Wd} {s : List Sp} {r : List Rq} {i j : Nat} {x : Sp} {y : Rq} (hy : r[j]? = some y) (hc : couldF w x y = true) : rdsJ w s r i x (j + 1) = addNew (rdsJ w s r i x j) (lookF x y) := by
  unfold rdsJ looksR
  rw [List.take_add_one, hy]
  simp [hc, List.foldl_append]
theorem rdsJ_end {w : Wd} {s : List Sp} {r : List Rq} {i : Nat} {x : Sp} (hx : s[i]? = some x) : rdsI w s r (i + 1) = rdsJ w s r i x r.length := by
  unfold rdsI rdsJ readsF
  rw [List.take_add_one, hx, List.take_length]
  simp only [Option.toList_some, List.flatMap_append, List.flatMap_cons, List.flatMap_nil, List.append_nil, List.foldl_append]
  rfl
theorem addNew_len (l : List Rd) (y : Rd) : (addNew l y).length ≤ l.length + 1 := by
  unfold addNew
  split <;> simp
/-- what Table answers -/
def TabR (w : Wd) (s : List Sp) (r : List Rq) (known : Int) (v : Value) (M : Mem) : Prop :=
  (¬ okT s r ∧ v = .tuple #[.slice none 0 0, .slice none 0 0, .int .i64 290]) ∨
  (okT s r ∧ ∃ A c B k, v = .tuple #[.slice A (fitsT w known s r).length c, .slice B (readsF w s r).length k, .int .i64 0] ∧ Fits2 M (.slice A (fitsT w known s r).length c) (fitsT w known s r) ∧ SlOf 5 RRd M (.slice B (readsF w s r).length k) (readsF w s r))
set_option maxHeartbeats 16000000 in
set_option maxRecDepth 20000 in
theorem table_fn (M : Mem) (ws : List Value) (w : Wd) (hw : RWd M ws w) (A1 A2 : Option Addr) (c1 c2 : Nat) (s : List Sp) (r : List Rq) (known : Int) (hs : SlOf 6 RSpC M (.slice A1 s.length c1) s) (hr : SlOf 6 RRqC M (.slice A2 r.length c2) r) :
    Fn0 Try.prog 19 [.agg ws.toArray, .slice A1 s.length c1, .slice A2 r.length c2, .int .i64 known] M (fun v M' => TabR w s r known v M') := by
  have hl1 := hs.len_le
  have hl2 := hr.len_le
  have h11 := hw.len
  have hKey : KeyOk Try.prog 117 (IntsN 5) := KeyOk.ofTy (tysOk.get rfl) rfl (by kernel_rfl)
  refine Fn.intro Try.func19 rfl rfl Try.ntmps19 rfl fun E F => ?_
  by_cases h1 : 64 < s.length
  · (repeat (first | ((with_reducible refine Tr.step rfl ?_); (first | (refine xmQ (z := ?_)) | (refine xaQ (z := ?_)) | (refine xnQ (z := ?_)) | (refine xiQ (z := ?_)) | ((with_reducible refine Knd.pick ?_); (refine Exec.stab rfl (Stab.pick_td rfl (by first | (with_reducible assumption) | (with_reducible rfl) | (with_reducible exact (not_not_intro rfl)) | omega) rfl) rfl ?_)) | ((with_reducible refine Knd.box ?_); (refine Exec.box rfl rfl (fun b => ?_))))) | (with_reducible first | apply Tr.next | apply Tr.seq | apply Tr.region | apply Tr.nil) | (refine Tr.guard_n' rfl rfl rfl (by first | (with_reducible assumption) | (with_reducible rfl) | (with_reducible exact (not_not_intro rfl)) | omega) rfl rfl ?_) | (with_reducible first | apply Tr.ret | apply Tr.then_ret) | (refine Tr.cond_bt rfl (by first | (with_reducible rfl) | (with_reducible assumption) | (with_reducible exact Bool.not_true) | (with_reducible exact Bool.not_false)) ?_)))
    (refine dnQ (hL := by exact ⟨[_], rfl⟩) (k := ⟨rfl, ?_⟩))
    exact .inl ⟨fun h => by have := h.1.1; omega, rfl⟩
  by_cases h2 : 64 < r.length
  · (repeat (first | ((with_reducible refine Tr.step rfl ?_); (first | (refine xmQ (z := ?_)) | (refine xaQ (z := ?_)) | (refine xnQ (z := ?_)) | (refine xiQ (z := ?_)) | ((with_reducible refine Knd.pick ?_); (refine Exec.stab rfl (Stab.pick_fd rfl (by first | (with_reducible assumption) | (with_reducible rfl) | (with_reducible exact (not_not_intro rfl)) | omega) rfl) rfl ?_)) | ((with_reducible refine Knd.box ?_); (refine Exec.box rfl rfl (fun b => ?_))))) | (with_reducible first | apply Tr.next | apply Tr.seq | apply Tr.region | apply Tr.nil) | ((refine Tr.guard_y' rfl rfl rfl (by first | (with_reducible assumption) | (with_reducible rfl) | (with_reducible exact (not_not_intro rfl)) | omega) ?_); (first | (refine xmQ (z := ?_)) | (refine xnQ (z := ?_)) | (refine xiQ (z := ?_)))) | (with_reducible first | apply Tr.ret | apply Tr.then_ret) | (refine Tr.cond_t rfl (by first | (with_reducible assumption) | (with_reducible rfl) | (with_reducible exact (not_not_intro rfl)) | omega) ?_)))
    (refine dnQ (hL := by exact ⟨[_], rfl⟩) (k := ⟨rfl, ?_⟩))
    exact .inl ⟨fun h => by have := h.1.2; omega, rfl⟩
  (repeat (first | ((with_reducible refine Tr.step rfl ?_); (first | (refine xmQ (z := ?_)) | (refine xaQ (z := ?_)) | (refine xnQ (z := ?_)) | (refine xiQ (z := ?_)) | ((with_reducible refine Knd.pick ?_); (refine Exec.stab rfl (Stab.pick_fd rfl (by first | (with_reducible assumption) | (with_reducible rfl) | (with_reducible exact (not_not_intro rfl)) | omega) rfl) rfl ?_)) | ((with_reducible refine Knd.box ?_); (refine Exec.box rfl rfl (fun b => ?_))))) | (with_reducible first | apply Tr.next | apply Tr.seq | apply Tr.region | apply Tr.nil) | ((refine Tr.guard_y' rfl rfl rfl (by first | (with_reducible assumption) | (with_reducible rfl) | (with_reducible exact (not_not_intro rfl)) | omega) ?_); (first | (refine xmQ (z := ?_)) | (refine xnQ (z := ?_)) | (refine xiQ (z := ?_)))) | (with_reducible refine Tr.skip ?_) | (refine Tr.cond_f rfl (by first | (with_reducible assumption) | (with_reducible rfl) | (with_reducible exact (not_not_intro rfl)) | omega) ?_)))
  generalize b = b4
  ((refine Tr.step rfl ?_)); refine Exec.call0 rfl (containsS_fn M A1 c1 s hs 40 [] (fun x => !decide (okSp x)) (fun x _ => table1_fn M x)) rfl ?_
  rintro _ _ _ ⟨rfl, rfl⟩
  by_cases h3 : ∀ x ∈ s, okSp x
  rotate_left
  · have e : (s.any fun x => !decide (okSp x)) = true := by
      rw [List.any_eq_true]
      simpa using h3
    rw [e]
    (repeat (first | ((with_reducible refine Tr.step rfl ?_); (first | (refine xmQ (z := ?_)) | (refine xaQ (z := ?_)) | ((with_reducible refine Knd.pick ?_); (refine Exec.stab rfl (Stab.pick_t rfl (by first | (with_reducible rfl) | (with_reducible assumption) | (with_reducible exact Bool.not_true) | (with_reducible exact Bool.not_false)) rfl) rfl ?_)))) | (with_reducible first | apply Tr.next | apply Tr.seq | apply Tr.region | apply Tr.nil) | (refine Tr.guard_s0 rfl rfl rfl (by first | (with_reducible rfl) | (with_reducible assumption) | (with_reducible exact Bool.not_true) | (with_reducible exact Bool.not_false)) rfl rfl ?_) | (with_reducible first | apply Tr.ret | apply Tr.then_ret) | (refine Tr.cond_bt rfl (by first | (with_reducible rfl) | (with_reducible assumption) | (with_reducible exact Bool.not_true) | (with_reducible exact Bool.not_false)) ?_)))
    (refine dnQ (hL := by exact ⟨[_], rfl⟩) (k := ⟨rfl, ?_⟩))
    exact .inl ⟨fun h => h3 h.2.1, rfl⟩
  have e3 : (s.any fun x => !decide (okSp x)) = false := by
    rw [List.any_eq_false]
    intro x hx
    simp [h3 x hx]
  rw [e3]
  (repeat (first | ((with_reducible refine Tr.step rfl ?_); (first | (refine xmQ (z := ?_)) | (refine xaQ (z := ?_)))) | (with_reducible first | apply Tr.next | apply Tr.seq | apply Tr.region | apply Tr.nil) | ((refine Tr.guard_l rfl rfl rfl (by first | (with_reducible rfl) | (with_reducible assumption) | (with_reducible exact Bool.not_true) | (with_reducible exact Bool.not_false)) ?_); (with_reducible refine Knd.move ?_); (refine xmQ (z := ?_)))))
  ((refine Tr.guard_l rfl rfl rfl (by first | (with_reducible rfl) | (with_reducible assumption) | (with_reducible exact Bool.not_true) | (with_reducible exact Bool.not_false)) ?_)); refine Exec.call0 rfl (containsR_fn M A2 c2 r hr 43 [] (fun x => !decide (okRq x)) (fun x _ => table2_fn M x)) rfl ?_
  rintro _ _ _ ⟨rfl, rfl⟩
  by_cases h4 : ∀ x ∈ r, okRq x
  rotate_left
  · have e : (r.any fun x => !decide (okRq x)) = true := by
      rw [List.any_eq_true]
      simpa using h4
    rw [e]
    (repeat (first | ((with_reducible refine Tr.step rfl ?_); (first | (refine xaQ (z := ?_)) | ((with_reducible refine Knd.pick ?_); (refine Exec.stab rfl (Stab.pick_f rfl (by first | (with_reducible rfl) | (with_reducible assumption) | (with_reducible exact Bool.not_true) | (with_reducible exact Bool.not_false)) rfl) rfl ?_)))) | (with_reducible first | apply Tr.next | apply Tr.seq | apply Tr.region | apply Tr.nil | apply Tr.ret | apply Tr.then_ret) | (refine Tr.cond_bt rfl (by first | (with_reducible rfl) | (with_reducible assumption) | (with_reducible exact Bool.not_true) | (with_reducible exact Bool.not_false)) ?_)))
    (refine dnQ (hL := by exact ⟨[_], rfl⟩) (k := ⟨rfl, ?_⟩))
    exact .inl ⟨fun h => h4 h.2.2, rfl⟩
  have e4 : (r.any fun x => !decide (okRq x)) = false := by
    rw [List.any_eq_false]
    intro x hx
    simp [h4 x hx]
  rw [e4]
  (repeat (first | ((with_reducible refine Tr.step rfl ?_); (first | (refine xmQ (z := ?_)) | (refine xaQ (z := ?_)) | (refine xnQ (z := ?_)) | ((with_reducible refine Knd.pick ?_); (refine Exec.stab rfl (Stab.pick_f rfl (by first | (with_reducible rfl) | (with_reducible assumption) | (with_reducible exact Bool.not_true) | (with_reducible exact Bool.not_false)) rfl) rfl ?_)) | ((with_reducible refine Knd.makeMap ?_); (refine Exec.makeMap rfl (fun b => ?_))) | ((with_reducible refine Knd.makeSlice ?_); (refine Exec.make rfl rfl (tysOk.get rfl) rfl (tysOk.get rfl) rfl rfl rfl (by omega) (by omega) (by first | omega | (simp; done) | (simp; omega)) (by omega) rfl (fun b => ?_))))) | (with_reducible first | apply Tr.next | apply Tr.seq | apply Tr.region | apply Tr.nil | apply Tr.skip | apply Tr.block) | (refine Tr.cond_bf rfl (by first | (with_reducible rfl) | (with_reducible assumption) | (with_reducible exact Bool.not_true) | (with_reducible exact Bool.not_false)) ?_)))
  simp only [Int.toNat_natCast]
  rename_i mb
  generalize b = bf
  refine Tr.own_nil 117 5 ?_
  refine Tr.loop (α := Nat × List Value × Mem × (List MapEntry × Nat) × (Option Addr × Nat)) (fun y => ⟨98, [(41, .int .i64 (y.1 : Int)), (40, .int .i64 (s.length : Int)), (39, .slice A1 s.length c1), (8, .slice (some ⟨bf, 0, none⟩) s.length s.length), (9, .slice y.2.2.2.2.1 (rdsI w s r y.1).length y.2.2.2.2.2), (12, .map (some mb)), (2, .slice A2 r.length c2), (3, .int .i64 known), (4, .pointer (some ⟨b4, 0, none⟩))], [], y.2.2.1, ownS 117 5 y.2.2.2.2.1 (rdsI w s r y.1).length y.2.2.2.2.2 ((rdsI w s r y.1).flatMap rdC) :: box bf 114 y.2.1 :: mapR mb y.2.2.2.1.1 y.2.2.2.1.2 :: box b4 38 ws :: F⟩)
    (fun y => y.1 ≤ s.length ∧ y.2.1.length = s.length ∧ Mem.le M y.2.2.1 ∧ Elems 1 RRowB y.2.2.1 (y.2.1.take y.1) (fitsT w known (s.take y.1) r) ∧ MapRd w known y.2.2.2.1.1 (rdsI w s r y.1) ∧ y.2.2.2.2.2 ≤ 9223372036854775807 ∧ (rdsI w s r y.1).length ≤ 64 * y.1) (fun y => s.length - y.1) (0, List.replicate s.length (.slice none 0 0), M, ([], 0), (none, 0)) ⟨Nat.zero_le _, by simp, Mem.le.refl _, Elems.nil, MapRd.nil w known, by simp, by simp [rdsI, readsF]⟩ hsQ (fun y hy => ?_)
  obtain ⟨i, cells, M1, ⟨es, cl⟩, Ar, cr⟩ := y
  obtain ⟨hi, hcl, hM, hel, hmap, hcr, hrl⟩ := hy
  simp only at hi hcl hM hel hmap hcr hrl
  dsimp only
  have hs1 := hs.mono RSpC.mono hM
  have hr1 := hr.mono RRqC.mono hM
  have hw1 := hw.mono hM
  by_cases hlt : i < s.length
  rotate_left
  · have ei : i = s.length := by omega
    subst ei
    rw [List.take_of_length_le (by omega), List.take_length] at hel
    have e0 : rdsI w s r s.length = readsF w s r := by rw [rdsI, List.take_length]
    rw [e0] at hmap hrl ⊢
    (repeat (first | ((with_reducible refine Tr.step rfl ?_); (first | (refine xmQ (z := ?_)) | (refine xaQ (z := ?_)) | (refine xiQ (z := ?_)))) | (with_reducible first | apply Tr.next | apply Tr.seq | apply Tr.region | apply Tr.nil | apply Tr.exit | apply Tr.ret | apply Tr.then_exit) | ((with_reducible refine Tr.in_exit ?_ ?_); (exact rfl)) | (refine Tr.cond_f rfl (by first | (with_reducible assumption) | (with_reducible rfl) | (with_reducible exact (not_not_intro rfl)) | omega) ?_)))
    refine pbQ (r := ownS 117 5 _ _ _ _) (k := fun M2 hm2 hok => ?_)
    refine pbQ (r := box bf _ _) (k := fun M3 hm3 hok2 => ?_)
    have hfl : (fitsT w known s r).length = s.length := by simp [fitsT]
    have hF : Fits2 M3 (.slice (some ⟨bf, 0, none⟩) (fitsT w known s r).length s.length) (fitsT w known s r) := SlOf.ofBoxC hok2 rfl (by rw [Nat.mul_one]; exact hcl) (by omega) (by omega) (by
      rw [hfl, Nat.mul_one, List.take_of_length_le (by omega)]
      intro u hu
      obtain ⟨j, hj, rfl⟩ := List.getElem_of_mem hu
      have hj2 : j < (fitsT w known s r).length := by omega
      obtain ⟨A, k, h, -⟩ := hel.2 j _ (List.getElem?_eq_getElem hj2)
      rw [Nat.mul_one, List.take_one, List.head?_drop, List.getElem?_eq_getElem hj] at h
      simp only [Option.toList_some, List.cons.injEq, and_true] at h
      rw [h]
      rfl) (by
      rw [hfl, Nat.mul_one, List.take_of_length_le (by omega)]
      exact hel.mono RRowB.mono (hm2.trans hm3))
    have hR : SlOf 5 RRd M3 (.slice Ar (readsF w s r).length cr) (readsF w s r) := (SlOf.ofOwn hok rfl hcr (rdC_elems _ _)).mono RRd.mono hm3
    have hmm := hM.trans (hm2.trans hm3)
    rw [← hfl]
    rw [← hfl] at hF
    (refine dnQ (hL := by exact ⟨[_, _], rfl⟩) (k := ⟨rfl, ?_⟩))
    exact .inr ⟨⟨⟨by omega, by omega⟩, h3, h4⟩, _, _, _, _, rfl, hF, hR⟩
  obtain ⟨x, hx⟩ := get_of_lt hlt
  have hxo := h3 x (List.mem_of_getElem? hx)
  obtain ⟨hA, ch, hat, rfl⟩ := hs1.elem hx
  simp only [spC] at hat
  (repeat (first | ((with_reducible refine Tr.step rfl ?_); (first | (refine xmQ (z := ?_)) | (refine xaQ (z := ?_)) | ((with_reducible refine Knd.load ?_); (refine Exec.stab rfl (Stab.loadMA rfl (tysOk.get rfl) rfl (by assumption) (by first | rfl | assumption)) rfl ?_)) | (refine xnQ (z := ?_)) | (refine xiQ (z := ?_)) | ((with_reducible refine Knd.store ?_); (first | (refine Exec.storeW rfl rfl (tysOk.get rfl) (by repeat (first | exact Upd.here | apply Upd.there)) rfl rfl (by repeat (first | (with_reducible assumption) | exact AllOne.nil | exact AllOne.bytes _ | refine AllOne.cons (by first | rfl | assumption) ?_)) ?_) | (refine Exec.storeS rfl rfl (tysOk.get rfl) rfl (by first | rfl | assumption) (by repeat (first | exact Upd.here | apply Upd.there)) (by omega) ?_))) | ((with_reducible refine Knd.alloc ?_); (refine Exec.alloc (tysOk.get rfl) rfl rfl (fun b => ?_))) | ((with_reducible refine Knd.indexAddr ?_); (first | (refine Exec.stab rfl (Stab.indexB0 rfl rfl (tysOk.get rfl) rfl (tysOk.get rfl) rfl (by omega) (by omega)) rfl ?_) | (refine xxQ (z := ?_)))) | ((with_reducible refine Knd.makeSlice ?_); (refine Exec.make rfl rfl (tysOk.get rfl) rfl (tysOk.get rfl) rfl rfl rfl (by omega) (by omega) (by first | omega | (simp; done) | (simp; omega)) (by omega) rfl (fun b => ?_))))) | (with_reducible first | apply Tr.next | apply Tr.seq | apply Tr.region | apply Tr.nil | apply Tr.skip | apply Tr.block) | (refine Tr.cond_t rfl (by first | (with_reducible assumption) | (with_reducible rfl) | (with_reducible exact (not_not_intro rfl)) | omega) ?_)))
  simp only [Int.toNat_natCast]
  rename_i b14
  generalize b = br
  refine ftQ (r := ownS 117 5 _ _ _ _) (k := ?_)
  refine Tr.loop (α := Nat × List Bool × (List MapEntry × Nat) × (Option Addr × Nat)) (fun y => ⟨98, [(54, .int .i64 (y.1 : Int)), (53, .int .i64 (r.length : Int)), (52, .slice A2 r.length c2), (9, .slice y.2.2.2.1 (rdsJ w s r i x y.1).length y.2.2.2.2), (13, .int .i64 (i : Int)), (14, .pointer (some ⟨b14, 0, none⟩)), (41, .int .i64 (i : Int)), (40, .int .i64 (s.length : Int)), (39, .slice A1 s.length c1), (8, .slice (some ⟨bf, 0, none⟩) s.length s.length), (12, .map (some mb)), (2, .slice A2 r.length c2), (3, .int .i64 known), (4, .pointer (some ⟨b4, 0, none⟩))], [], M1, ownS 117 5 y.2.2.2.1 (rdsJ w s r i x y.1).length y.2.2.2.2 ((rdsJ w s r i x y.1).flatMap rdC) :: box br 4 (boV y.2.1) :: box b14 77 [.int .i64 x.no, .int .i64 x.item, .int .i64 x.plant, .int .i64 x.ready, .int .i64 x.expiry, .int .i64 x.amount] :: box bf 114 (cells.set i (.slice (some ⟨br, 0, none⟩) r.length r.length)) :: mapR mb y.2.2.1.1 y.2.2.1.2 :: box b4 38 ws :: F⟩)
    (fun y => y.1 ≤ r.length ∧ y.2.1 = (r.take y.1).map (fitF w known x) ++ List.replicate (r.length - y.1) false ∧ MapRd w known y.2.2.1.1 (rdsJ w s r i x y.1) ∧ y.2.2.2.2 ≤ 9223372036854775807 ∧ (rdsJ w s r i x y.1).length ≤ 64 * i + y.1) (fun y => r.length - y.1) (0, List.replicate r.length false, (es, cl), (Ar, cr)) ⟨Nat.zero_le _, by simp, by simpa [rdsJ, looksR] using hmap, hcr, by simpa [rdsJ, looksR] using hrl⟩ (by simpa [rdsJ, looksR, boV] using (hsQ)) (fun y hy => ?_)
  obtain ⟨j, row, ⟨es2, cl2⟩, Ar2, cr2⟩ := y
  obtain ⟨hj, hrow, hmap2, hcr2, hrl2⟩ := hy
  simp only at hj hrow hmap2 hcr2 hrl2
  dsimp only
  have hrowl : row.length = r.length := by rw [hrow]; simp; omega
  by_cases hjlt : j < r.length
  rotate_left
  · have ej : j = r.length := by omega
    subst ej
    rw [← rdsJ_end hx] at hmap2 hrl2 ⊢
    rw [Nat.sub_self, List.replicate_zero, List.append_nil, List.take_length] at hrow
    subst hrow
    (repeat (first | ((with_reducible refine Tr.step rfl ?_); (first | (refine xmQ (z := ?_)) | ((with_reducible refine Knd.binOp ?_); (first | (refine xdQ (z := ?_)) | (refine xiQ (z := ?_)))))) | (with_reducible first | apply Tr.next | apply Tr.seq | apply Tr.region | apply Tr.nil | apply Tr.exit | apply Tr.then_exit | apply Tr.in_normal) | ((with_reducible refine Tr.in_exit ?_ ?_); (exact rfl)) | (refine Tr.cond_f rfl (by first | (with_reducible assumption) | (with_reducible rfl) | (with_reducible exact (not_not_intro rfl)) | omega) ?_)))
    refine pbQ (r := box br _ _) (k := fun M2 hm2 hok => ?_)
    have hB : Bools M2 (.slice (some ⟨br, 0, none⟩) (r.map (fitF w known x)).length r.length) (r.map (fitF w known x)) := SlOf.ofBoxC hok rfl (by simp) (by simp) (by omega) (fun u hu => boW_one _ u (List.mem_of_mem_take hu)) (by
      rw [Nat.mul_one, List.take_of_length_le (by simp)]
      exact boW_elems _ _)
    refine gvQ (r := box b14 _ _) (k := ?_)
    refine Tr.again (i + 1, cells.set i (.slice (some ⟨br, 0, none⟩) r.length r.length), M2, (es2, cl2), (Ar2, cr2)) ⟨by simp only; omega, by simpa using hcl, hM.trans hm2, ?_, hmap2, hcr2, by simp only; omega⟩ (by simp only; omega) hsQ
    simp only
    have e1 : (cells.set i (Value.slice (some ⟨br, 0, none⟩) r.length r.length)).take (i + 1) = cells.take i ++ [.slice (some ⟨br, 0, none⟩) r.length r.length] := by
      rw [List.take_add_one, List.getElem?_set_self (by omega), List.take_set_of_le (Nat.le_refl _)]
      rfl
    have e2 : fitsT w known (s.take (i + 1)) r = fitsT w known (s.take i) r ++ [r.map (fitF w known x)] := by
      unfold fitsT
      rw [List.take_add_one, hx]
      simp
    rw [e1, e2]
    refine (hel.mono RRowB.mono hm2).append (Elems.one rfl ⟨some ⟨br, 0, none⟩, r.length, ?_, hB⟩)
    rw [List.length_map]
  obtain ⟨y, hy⟩ := get_of_lt hjlt
  have hyo := h4 y (List.mem_of_getElem? hy)
  obtain ⟨hA2, ch2, hat2, rfl⟩ := hr1.elem hy
  simp only [rqC] at hat2
  have hbl : (boV row).length = r.length := by simp [hrowl]
  have hset : nthL (cells.set i (Value.slice (some ⟨br, 0, none⟩) r.length r.length)) i = some (.slice (some ⟨br, 0, none⟩) r.length r.length) := by
    rw [nthL_eq, List.getElem?_set_self (by omega)]
  have hrowset : ∀ v, row.set j v = (r.take j).map (fitF w known x) ++ v :: List.replicate (r.length - (j + 1)) false := fun v => by
    rw [hrow, List.set_append_right _ _ (by simp; omega), List.length_map, List.length_take, Nat.min_eq_left (by omega), Nat.sub_self, show r.length - j = (r.length - (j + 1)) + 1 by omega, List.replicate_succ, List.set_cons_zero]
  have htk : ∀ v, fitF w known x y = v → row.set j v = (r.take (j + 1)).map (fitF w known x) ++ List.replicate (r.length - (j + 1)) false := fun v hv => by
    rw [hrowset, List.take_add_one, hy, ← hv]
    simp
  (repeat (first | ((with_reducible refine Tr.step rfl ?_); (first | (refine xmQ (z := ?_)) | (refine xaQ (z := ?_)) | ((with_reducible refine Knd.load ?_); (first | (refine xwQ (z := ?_)) | (refine Exec.stab rfl (Stab.loadW rfl (tysOk.get rfl) rfl (by repeat (first | exact Has.here | apply Has.there)) (by assumption)) rfl ?_) | (refine Exec.stab rfl (Stab.loadMA rfl (tysOk.get rfl) rfl (by assumption) (by first | rfl | assumption)) rfl ?_))) | (refine xiQ (z := ?_)) | ((with_reducible refine Knd.store ?_); (refine Exec.storeW rfl rfl (tysOk.get rfl) (by repeat (first | exact Upd.here | apply Upd.there)) rfl rfl (by repeat (first | (with_reducible assumption) | exact AllOne.nil | exact AllOne.bytes _ | refine AllOne.cons (by first | rfl | assumption) ?_)) ?_)) | ((with_reducible refine Knd.alloc ?_); (refine Exec.alloc (tysOk.get rfl) rfl rfl (fun b => ?_))) | (refine xxQ (z := ?_)))) | (with_reducible first | apply Tr.next | apply Tr.seq | apply Tr.region | apply Tr.nil | apply Tr.skip | apply Tr.block) | (refine Tr.cond_t rfl (by first | (with_reducible assumption) | (with_reducible rfl) | (with_reducible exact (not_not_intro rfl)) | omega) ?_)))
  ((refine Tr.step rfl ?_)); refine Exec.call0 rfl (couldFit_fn M1 ws w hw1 x y hyo) rfl ?_
  rintro _ _ _ ⟨rfl, rfl⟩
  cases hc : couldF w x y with
  | false =>
    have hf : fitF w known x y = false := by rw [fitF, hc, Bool.false_and]
    have hrow2 : row = (r.take (j + 1)).map (fitF w known x) ++ List.replicate (r.length - (j + 1)) false := by
      rw [← htk false hf, hrowset, hrow, show r.length - j = (r.length - (j + 1)) + 1 by omega, List.replicate_succ]
    have hno := rdsJ_no (s := s) (i := i) hy hc
    rw [← hno] at hmap2 ⊢
    (repeat (first | ((with_reducible refine Tr.step rfl ?_); (first | (refine xmQ (z := ?_)) | (refine xdQ (z := ?_)) | ((with_reducible refine Knd.unOp ?_); (refine Exec.stab rfl (Stab.not rfl) rfl ?_)))) | (with_reducible first | apply Tr.next | apply Tr.region | apply Tr.nil | apply Tr.exit | apply Tr.then_exit) | ((with_reducible refine Tr.in_exit ?_ ?_); (exact rfl)) | (refine Tr.cond_bt rfl (by first | (with_reducible rfl) | (with_reducible assumption) | (with_reducible exact Bool.not_true) | (with_reducible exact Bool.not_false)) ?_)))
    refine Tr.again (j + 1, row, (es2, cl2), (Ar2, cr2)) ⟨by simp only; omega, hrow2, hmap2, hcr2, by simp only; rw [hno]; omega⟩ (by simp only; omega) hsQ
  | true =>
    have hyes := rdsJ_yes (s := s) (i := i) hy hc
    (repeat (first | ((with_reducible refine Tr.step rfl ?_); (first | (refine xwQ (z := ?_)) | ((with_reducible refine Knd.unOp ?_); (refine Exec.stab rfl (Stab.not rfl) rfl ?_)))) | (with_reducible first | apply Tr.next | apply Tr.seq | apply Tr.region | apply Tr.nil | apply Tr.skip) | (refine Tr.cond_bf rfl (by first | (with_reducible rfl) | (with_reducible assumption) | (with_reducible exact Bool.not_true) | (with_reducible exact Bool.not_false)) ?_)))
    ((refine Tr.step rfl ?_)); refine Exec.call0 rfl (look_fn M1 x y hyo) rfl ?_
    rintro _ _ _ ⟨rfl, rfl⟩
    (repeat (first | ((with_reducible refine Tr.step rfl ?_); (first | (refine xmQ (z := ?_)) | (refine xwQ (z := ?_)) | ((with_reducible refine Knd.store ?_); (refine Exec.storeW rfl rfl (tysOk.get rfl) (by repeat (first | exact Upd.here | apply Upd.there)) rfl rfl (by repeat (first | (with_reducible assumption) | exact AllOne.nil | exact AllOne.bytes _ | refine AllOne.cons (by first | rfl | assumption) ?_)) ?_)) | ((with_reducible refine Knd.alloc ?_); (refine Exec.alloc (tysOk.get rfl) rfl rfl (fun b => ?_))))) | (with_reducible first | apply Tr.next | apply Tr.seq | apply Tr.region | apply Tr.nil)))
    have hval := hmap2.2 (lookF x y)
    have hkey : ints (rdI (lookF x y)) = .agg #[.int .i64 7, .int .i64 y.cust, .int .i64 x.item, .int .i64 y.due, .int .i64 (y.due + 1)] := rfl
    rw [hkey] at hval
    refine Tr.step rfl ?_
    refine Exec.stab rfl (Stab.lookupV2 hKey rfl rfl (tysOk.get rfl) rfl (tysOk.get rfl) rfl (by repeat (first | exact Has.here | apply Has.there)) hmap2.1 ⟨rdI (lookF x y), rfl, rfl⟩) rfl ?_
    rw [hval]
    by_cases hin : lookF x y ∈ rdsJ w s r i x j
    · rw [if_pos hin]
      simp only [Option.getD_some, Option.isSome_some]
      have hadd : addNew (rdsJ w s r i x j) (lookF x y) = rdsJ w s r i x j := by rw [addNew, if_pos hin]
      rw [hadd] at hyes
      have hf : fitF w known x y = !refusedF w (lookF x y) known := by rw [fitF, hc, Bool.true_and]
      rw [← hyes] at hmap2 ⊢
      cases hre : refusedF w (lookF x y) known
      all_goals
        rw [hre] at hf
        (repeat (first | ((with_reducible refine Tr.step rfl ?_); (first | (refine xmQ (z := ?_)) | (refine xaQ (z := ?_)) | ((with_reducible refine Knd.load ?_); (refine Exec.stab rfl (Stab.load rfl (tysOk.get rfl) rfl (by repeat (first | exact Has.here | apply Has.there)) (by assumption)) rfl ?_)) | (refine xdQ (z := ?_)) | ((with_reducible refine Knd.unOp ?_); (refine Exec.stab rfl (Stab.not rfl) rfl ?_)) | ((with_reducible refine Knd.store ?_); (refine Exec.storeS rfl rfl (tysOk.get rfl) rfl (by first | rfl | assumption) (by repeat (first | exact Upd.here | apply Upd.there)) (by omega) ?_)) | ((with_reducible refine Knd.extract ?_); (refine Exec.stab rfl (Stab.extract rfl rfl) rfl ?_)) | ((with_reducible refine Knd.indexAddr ?_); (refine Exec.stab rfl (Stab.indexB0 rfl rfl (tysOk.get rfl) rfl (tysOk.get rfl) rfl (by omega) (by omega)) rfl ?_)))) | (with_reducible first | apply Tr.next | apply Tr.seq | apply Tr.region | apply Tr.nil | apply Tr.skip | apply Tr.in_normal) | (refine Tr.cond_bf rfl (by first | (with_reducible rfl) | (with_reducible assumption) | (with_reducible exact Bool.not_true) | (with_reducible exact Bool.not_false)) ?_)))
        rw [boV_set]
        refine Tr.again (j + 1, row.set j _, (es2, cl2), (Ar2, cr2)) ⟨by simp only; omega, htk _ hf, hmap2, hcr2, by simp only; rw [hyes]; omega⟩ (by simp only; omega) hsQ
    · rw [if_neg hin]
      simp only [Option.getD_none, Option.isSome_none]
      (repeat (first | ((with_reducible refine Tr.step rfl ?_); (first | (refine xmQ (z := ?_)) | (refine xaQ (z := ?_)) | ((with_reducible refine Knd.load ?_); (first | (refine xwQ (z := ?_)) | (refine Exec.stab rfl (Stab.loadW rfl (tysOk.get rfl) rfl (by repeat (first | exact Has.here | apply Has.there)) (by assumption)) rfl ?_))) | ((with_reducible refine Knd.unOp ?_); (refine Exec.stab rfl (Stab.not rfl) rfl ?_)) | ((with_reducible refine Knd.extract ?_); (refine Exec.stab rfl (Stab.extract rfl rfl) rfl ?_)))) | (with_reducible first | apply Tr.next | apply Tr.seq | apply Tr.region | apply Tr.nil) | (refine Tr.cond_bt rfl (by first | (with_reducible rfl) | (with_reducible assumption) | (with_reducible exact Bool.not_true) | (with_reducible exact Bool.not_false)) ?_)))
      ((refine Tr.step rfl ?_)); refine Exec.call0 rfl (refused_fn M1 ws w hw1 (lookF x y) known) rfl ?_
      rintro _ _ _ ⟨rfl, rfl⟩
      (repeat (first | ((with_reducible refine Tr.step rfl ?_); (first | (refine xmQ (z := ?_)) | (refine xaQ (z := ?_)) | (refine xwQ (z := ?_)))) | (with_reducible first | apply Tr.next | apply Tr.seq | apply Tr.region | apply Tr.nil)))
      refine Tr.step rfl ?_
      refine Exec.mapUpdateV hKey rfl rfl rfl (tysOk.get rfl) rfl hmap2.1 ⟨rdI (lookF x y), rfl, rfl⟩ (by repeat (first | exact Upd.here | apply Upd.there)) ?_
      (repeat (first | ((with_reducible refine Tr.step rfl ?_); (first | (refine xmQ (z := ?_)) | (refine xwQ (z := ?_)) | ((with_reducible refine Knd.buildSlice ?_); (refine Exec.buildSlice (tysOk.get rfl) rfl (tysOk.get rfl) rfl rfl rfl rfl rfl (by repeat (first | exact BuildP.nil | ((apply BuildP.one); (rfl); (rfl); (first | rfl | assumption); (repeat (first | exact SetL.z | apply SetL.s))) | ((apply BuildP.many); (rfl); (rfl); (rfl); (rfl); (repeat (first | exact PutL.nil | ((apply PutL.cons); (repeat (first | exact SetL.z | apply SetL.s)))))))) rfl (fun b => ?_))))) | (with_reducible first | apply Tr.next | apply Tr.region | apply Tr.nil)))
      ((refine Tr.step rfl ?_))
      refine Exec.append (news := rdC (lookF x y)) rfl rfl (tysOk.get rfl) rfl (tysOk.get rfl) rfl rfl rfl rfl (by repeat (first | exact Del.here | apply Del.there)) (Src.box (by repeat (first | exact Has.here | apply Has.there))) rfl (rdC_one _) (by omega) (by omega) rfl (fun A6 c6 hc6 => ?_)
      refine gvQ (r := box _ 117 _) (k := ?_)
      have hadd : addNew (rdsJ w s r i x j) (lookF x y) = rdsJ w s r i x j ++ [lookF x y] := by rw [addNew, if_neg hin]
      have hm3 := hmap2.add hin cl2
      have hfl : (rdsJ w s r i x j).flatMap rdC ++ rdC (lookF x y) = (addNew (rdsJ w s r i x j) (lookF x y)).flatMap rdC := by rw [hadd, List.flatMap_append]; simp
      have hln : (rdsJ w s r i x j).length + 1 = (addNew (rdsJ w s r i x j) (lookF x y)).length := by rw [hadd]; simp
      have hf : fitF w known x y = !refusedF w (lookF x y) known := by rw [fitF, hc, Bool.true_and]
      rw [hfl, hln]
      cases hre : refusedF w (lookF x y) known
      all_goals
        rw [hre] at hf hm3
        (repeat (first | ((with_reducible refine Tr.step rfl ?_); (first | (refine xmQ (z := ?_)) | (refine xaQ (z := ?_)) | ((with_reducible refine Knd.load ?_); (refine Exec.stab rfl (Stab.load rfl (tysOk.get rfl) rfl (by repeat (first | exact Has.here | apply Has.there)) (by assumption)) rfl ?_)) | (refine xdQ (z := ?_)) | ((with_reducible refine Knd.unOp ?_); (refine Exec.stab rfl (Stab.not rfl) rfl ?_)) | ((with_reducible refine Knd.store ?_); (refine Exec.storeS rfl rfl (tysOk.get rfl) rfl (by first | rfl | assumption) (by repeat (first | exact Upd.here | apply Upd.there)) (by omega) ?_)) | ((with_reducible refine Knd.indexAddr ?_); (refine Exec.stab rfl (Stab.indexB0 rfl rfl (tysOk.get rfl) rfl (tysOk.get rfl) rfl (by omega) (by omega)) rfl ?_)))) | (with_reducible first | apply Tr.next | apply Tr.region | apply Tr.nil | apply Tr.in_normal)))
        rw [boV_set]
        refine gvQ (r := box _ 117 _) (k := ?_)
        refine gvQ (r := box _ 46 _) (k := ?_)
        refine Tr.again (j + 1, row.set j _, ((updV _ _ es2 cl2).1, (updV _ _ es2 cl2).2), (A6, c6)) ⟨by simp only; omega, htk _ hf, by rw [hyes]; exact hm3, hc6, by simp only; rw [hyes, ← hln]; omega⟩ (by simp only; omega) (by rw [hyes]; exact hsQ)
end Go.Proofs.Ytlifjajcmnkhfaa

/-
  Promises: books that are made of a list of requests, and whether they can be kept, plain.
  Conditions: none.
-/
namespace Go.Proofs.Ytlifjajcmnkhfaa
open Go Bf
def amS (s : List Sp) : List Int := s.map (·.amount)
def amR (r : List Rq) : List Int := r.map (·.amount)
/-- what a list of requests asks of supplies, in a world -/
def pbW (w : Wd) (known : Int) (s : List Sp) (r : List Rq) : Pb := pbOf (fitsT w known s r) (amS s) (amR r)
theorem fitsT_get {w : Wd} {known : Int} {s : List Sp} {r : List Rq} {i j : Nat} {x : Sp} {y : Rq} (hx : s[i]? = some x) (hy : r[j]? = some y) : ((fitsT w known s r).getD i []).getD j false = fitF w known x y := by
  simp [fitsT, List.getD_eq_getElem?_getD, hx, hy]
theorem okT_vld {w : Wd} {known : Int} {s : List Sp} {r : List Rq} (h : okT s r) : Vld (fitsT w known s r) (amS s) (amR r) := by
  obtain ⟨⟨h1, h2⟩, h3, h4⟩ := h
  refine ⟨by simpa [amS] using h1, by simpa [amR] using h2, by simp [fitsT, amS], ?_, ?_, ?_⟩
  · intro x hx
    simp only [fitsT, List.mem_map] at hx
    obtain ⟨y, _, rfl⟩ := hx
    simp [amR]
  · intro x hx
    simp only [amS, List.mem_map] at hx
    obtain ⟨y, hy, rfl⟩ := hx
    exact (h3 y hy).2.2.2.2.2
  · intro x hx
    simp only [amR, List.mem_map] at hx
    obtain ⟨y, hy, rfl⟩ := hx
    exact (h4 y hy).2.2.2.2.2
theorem okB.pb {w : Wd} {b : Bp} (h : okB w b) : pbB b = pbW w b.known b.sups b.reqs := by
  unfold pbB pbW
  rw [h.2.2.1.1]
  rfl
theorem feasW_sub {w : Wd} {known : Int} {s : List Sp} {r r' : List Rq} (hs : SubInj r' r) (h : Feas (pbW w known s r)) : Feas (pbW w known s r') := by
  obtain ⟨f, h1, h2⟩ := hs
  refine Feas.inj (p := pbW w known s r) f (by simp [pbW, pbOf]) (fun j hj => ?_) (fun i j hi hj => h2 i j (by simpa [pbW, pbOf, amR] using hi) (by simpa [pbW, pbOf, amR] using hj)) (fun k hk j hj hf => ?_) (fun k hk => Int.le_refl _) (fun j hj => ?_) h
  · have := (h1 j (by simpa [pbW, pbOf, amR] using hj)).1
    simpa [pbW, pbOf, amR] using this
  · simp only [pbW, pbOf, amS, amR, List.length_map] at hk hj hf ⊢
    obtain ⟨x, hx⟩ := get_of_lt hk
    obtain ⟨y, hy⟩ := get_of_lt hj
    have e := (h1 j hj).2
    rw [hy] at e
    rw [fitsT_get hx e] at hf
    rw [fitsT_get hx hy]
    exact hf
  · simp only [pbW, pbOf, amR, List.length_map] at hj ⊢
    have e := (h1 j hj).2
    simp only [List.getD_eq_getElem?_getD, List.getElem?_map, ← e]
theorem feasW_nil (w : Wd) (known : Int) (s : List Sp) (hs : ∀ x ∈ s, okSp x) : Feas (pbW w known s []) := by
  refine feas_part.2 ⟨fun _ _ => 0, fun k hk b hb => Int.le_refl _, fun k hk b hb h => absurd rfl h, fun k hk => ?_, fun b hb => ?_⟩
  · obtain ⟨x, hx⟩ := get_of_lt (xs := s) (i := k) (by simpa [pbW, pbOf, amS] using hk)
    have := (hs x (List.mem_of_getElem? hx)).2.2.2.2.2.1
    show (0 : Int) ≤ (amS s).getD k 0
    simp [amS, List.getD_eq_getElem?_getD, hx, this]
  · simp [pbW, pbOf, amR] at hb
theorem okT_sub {s : List Sp} {r r' : List Rq} (hs : SubInj r' r) (hl : r'.length ≤ 64) (h : okT s r) : okT s r' := by
  refine ⟨⟨h.1.1, hl⟩, h.2.1, fun x hx => ?_⟩
  obtain ⟨j, hj, rfl⟩ := List.getElem_of_mem hx
  obtain ⟨f, h1, -⟩ := hs
  have := (h1 j hj).2
  rw [List.getElem?_eq_getElem hj] at this
  exact h.2.2 _ (List.mem_of_getElem? this)
theorem okT_app {s : List Sp} {r : List Rq} {x : Rq} (h : okT s r) : okT s (r ++ [x]) ↔ okRq x ∧ r.length + 1 ≤ 64 := by
  constructor
  · intro h2
    exact ⟨h2.2.2 x (by simp), by simpa using h2.1.2⟩
  · rintro ⟨h1, h2⟩
    exact ⟨⟨h.1.1, by simpa using h2⟩, h.2.1, fun y hy => by
      rcases List.mem_append.1 hy with h3 | h3
      · exact h.2.2 y h3
      · simp at h3; subst h3; exact h1⟩
theorem okB_mk {w : Wd} {b : Bp} {r : List Rq} (hn : (r.map (·.no)).Nodup) (hs : (b.sups.map (·.no)).Nodup) (ht : okT b.sups r) (hf : Feas (pbW w b.known b.sups r)) : okB w (mkF w b r) := ⟨⟨hn, hs⟩, ht, ⟨rfl, rfl⟩, hf⟩
theorem okB_new {w : Wd} {known : Int} {s : List Sp} (ht : okT s []) (hs : (s.map (·.no)).Nodup) : okB w (mkF w ⟨known, s, [], [], []⟩ []) := okB_mk List.nodup_nil hs ht (feasW_nil w known s ht.2.1)
theorem okB_more {w : Wd} {b : Bp} {r : Rq} (h : okB w b) (hno : r.no ∉ b.reqs.map (·.no)) (hr : okRq r) (hl : b.reqs.length + 1 ≤ 64) (hf : Feas (pbW w b.known b.sups (b.reqs ++ [r]))) : okB w (more w b r) := by
  refine okB_mk ?_ h.1.2 ((okT_app h.2.1).2 ⟨hr, hl⟩) hf
  rw [List.map_append, List.nodup_append]
  refine ⟨h.1.1, by simp, fun x hx y hy => ?_⟩
  simp at hy
  subst hy
  exact fun e => hno (e ▸ hx)
end Go.Proofs.Ytlifjajcmnkhfaa

/-
  Matching: the contract of Flow.
  Conditions: none.
-/
namespace Go.Proofs.Ytlifjajcmnkhfaa
open Go Bf
attribute [local irreducible] Tr Exec Stab HasTy Go.Addr.add IntKind.wrap
set_option maxHeartbeats 8000000 in
set_option maxRecDepth 20000 in
theorem flow_fn (M : Mem) (A0 A1 A2 : Option Addr) (c0 c1 c2 : Nat) (fits : List (List Bool)) (sup need : List Int) (hf : Fits2 M (.slice A0 fits.length c0) fits) (hs : Ints M (.slice A1 sup.length c1) sup) (hn : Ints M (.slice A2 need.length c2) need) (rs : I64s sup) (rn : I64s need) :
    Fn0 Try.prog 22 [.slice A0 fits.length c0, .slice A1 sup.length c1, .slice A2 need.length c2] M (fun r M' => FlowR fits sup need r M') := by
  refine Fn.intro Try.func22 rfl rfl Try.ntmps22 rfl fun E F => ?_
  repeat (first | ((with_reducible refine Tr.step rfl ?_); (first | (refine xmQ (z := ?_)) | (refine xaQ (z := ?_)))) | (with_reducible first | apply Tr.next | apply Tr.seq | apply Tr.region | apply Tr.nil))
  ((refine Tr.step rfl ?_)); refine Exec.call0 rfl (valid_fn M A0 A1 A2 c0 c1 c2 fits sup need hf hs hn rs rn) rfl ?_
  rintro _ _ _ ⟨rfl, rfl⟩
  cases hvv : validF fits sup need
  · repeat (first | ((with_reducible refine Tr.step rfl ?_); (first | (refine xaQ (z := ?_)) | ((with_reducible refine Knd.unOp ?_); ((refine Exec.stab rfl (Stab.not rfl) rfl ?_))))) | (with_reducible first | apply Tr.next | apply Tr.seq | apply Tr.region | apply Tr.nil | apply Tr.ret | apply Tr.then_ret) | (refine Tr.cond_bt rfl (by first | (with_reducible rfl) | (with_reducible assumption) | (with_reducible exact Bool.not_true) | (with_reducible exact Bool.not_false)) ?_))
    (refine dnQ (hL := by exact ⟨[], rfl⟩) (k := ⟨rfl, ?_⟩))
    exact .inl ⟨hvv, rfl⟩
  have hv := vld_iff.1 hvv
  have l1 := hv.ls
  have l2 := hv.ln
  have l3 := hv.lf
  repeat (first | ((with_reducible refine Tr.step rfl ?_); (first | (refine xmQ (z := ?_)) | ((with_reducible refine Knd.unOp ?_); ((refine Exec.stab rfl (Stab.not rfl) rfl ?_))))) | (with_reducible first | apply Tr.next | apply Tr.seq | apply Tr.region | apply Tr.nil | apply Tr.skip) | (refine Tr.cond_bf rfl (by first | (with_reducible rfl) | (with_reducible assumption) | (with_reducible exact Bool.not_true) | (with_reducible exact Bool.not_false)) ?_))
  ((refine Tr.step rfl ?_))
  refine Exec.call (A := []) rfl (begin_fn M A0 fits.length c0 A1 A2 c1 c2 sup need hs hn hv.ls hv.ln) (List.Perm.refl _) rfl ?_
  rintro _ _ _ _ ⟨o, rws0, rfl, ho, ho1, ho2, hrw, rfl, rfl⟩
  repeat (first | ((with_reducible refine Tr.step rfl ?_); (first | (refine xmQ (z := ?_)) | (refine xaQ (z := ?_)))) | (with_reducible first | apply Tr.next | apply Tr.seq | apply Tr.region | apply Tr.nil))
  ((refine Tr.step rfl ?_))
  refine Exec.call (A := stL o (need.length + 1) rws0 need (List.replicate 64 0) (List.replicate 65 0)) rfl (fill_fn M o A0 c0 fits sup need hv hf ho ho1 ho2 _ rws0 need _ _ (begin_shape hrw) rfl (begin_flow hv hrw) (by simp) (by simp)) (List.Perm.refl _) rfl ?_
  rintro _ _ _ _ ⟨rfl, rws, lack, tk, gv, rfl, hsh, hll, ltk, lgv, hfi⟩
  generalize rws0.map (·.1) = bs at hsh
  have hlk := lack_rng hv hll hfi.1
  have hL := hfi.isLack
  have hL0 := hL.zero hv.sup0 hv.need0
  have hls := sumN_list lack
  rw [hll] at hls
  rw [← hls] at hL hL0
  have r1 := sum_rng (by omega) hlk
  simp only [stL, List.cons_append, List.nil_append]
  repeat (first | ((with_reducible refine Tr.step rfl ?_); (first | (refine xmQ (z := ?_)) | (refine xlQ (z := ?_)) | (refine xfQ (z := ?_)) | ((with_reducible refine Knd.nilCheck ?_); (refine Exec.stab rfl (Stab.nilCheck rfl) rfl ?_)))) | (with_reducible first | apply Tr.next | apply Tr.seq | apply Tr.region | apply Tr.nil))
  refine own_cap o.Al (by repeat (first | exact Has.here | apply Has.there)) (fun hA1 hA2 => ?_)
  ((refine Tr.step rfl ?_))
  refine Exec.call (A := [ownS 3 1 o.Al lack.length o.cl (intV lack)]) (F := box o.sb 129 _ :: ownS 32 1 o.Am _ _ _ :: rowsR rws :: F) rfl (sum_fn M [ownS 3 1 o.Al lack.length o.cl (intV lack)] o.Al o.cl lack hA1 (fun h => by
    cases hAl : o.Al with
    | none => exact absurd (List.eq_nil_of_length_eq_zero (hA2 hAl)) h
    | some a => rfl) (Src.own .here) (small_of (by omega) hlk)) (List.perm_middle (l₁ := [_, _, _])).symm rfl ?_
  rintro _ _ _ _ ⟨rfl, rfl, rfl⟩
  by_cases hs0 : 0 < lack.sum
  · repeat (first | ((with_reducible refine Tr.step rfl ?_); (first | (refine xmQ (z := ?_)) | (refine xiQ (z := ?_)))) | (with_reducible first | apply Tr.next | apply Tr.seq | apply Tr.region | apply Tr.nil) | (refine Tr.cond_t rfl (by first | (with_reducible assumption) | (with_reducible rfl) | (with_reducible exact (not_not_intro rfl)) | omega) ?_))
    ((refine Tr.step rfl ?_)); refine Exec.call0 rfl (cutOf_fn M A0 A1 A2 c0 c1 c2 fits sup need hf hs hn hv) rfl ?_
    rintro _ M2 hm2 ⟨B, k, rfl, hI⟩
    repeat (first | ((with_reducible refine Tr.step rfl ?_); ((refine xaQ (z := ?_)))) | (with_reducible first | apply Tr.next | apply Tr.nil | apply Tr.ret | apply Tr.then_ret))
    (refine dnQ (hL := by exact ⟨[_, _, _, _], rfl⟩) (k := ⟨rfl, ?_⟩))
    exact .inr (.inl ⟨hv, fun h => by have := hL0.2 h; omega, B, k, rfl, hI⟩)
  have hz : lack.sum = 0 := by omega
  have hfl : Bf.Flow (pbOf fits sup need) (amt rws) fun _ => 0 := hfi.1.zero (hls.symm.trans hz)
  repeat (first | ((with_reducible refine Tr.step rfl ?_); (first | (refine xmQ (z := ?_)) | (refine xnQ (z := ?_)) | (refine xiQ (z := ?_)))) | (with_reducible first | apply Tr.next | apply Tr.seq | apply Tr.region | apply Tr.nil | apply Tr.skip | apply Tr.block) | (refine Tr.cond_f rfl (by first | (with_reducible assumption) | (with_reducible rfl) | (with_reducible exact (not_not_intro rfl)) | omega) ?_))
  simp only [List.cons_append, List.nil_append]
  refine ftQ (r := rowsR _) (k := ?_)
  refine ftQ (r := ownS 32 1 _ _ _ _) (k := ?_)
  refine ftQ (r := box o.sb 129 _) (k := ?_)
  refine Tr.own_nil 32 1 ?_
  refine Tr.loop (α := Nat × List (Nat × List Int) × List Int × List Int × Mem × Option Addr × Nat × List Value) (fun y => ⟨72, [(36, .int .i64 (y.1 : Int)), (35, .int .i64 (sup.length : Int)), (6, .slice y.2.2.2.2.2.1 y.1 y.2.2.2.2.2.2.1), (10, .pointer (some ⟨o.sb, 0, none⟩)), (0, .slice A0 fits.length c0), (2, .slice A2 need.length c2)], [], y.2.2.2.2.1, ownS 32 1 y.2.2.2.2.2.1 y.1 y.2.2.2.2.2.2.1 y.2.2.2.2.2.2.2 :: (stL o (need.length + 1) y.2.1 lack y.2.2.1 y.2.2.2.1 ++ F)⟩)
    (fun y => y.1 ≤ sup.length ∧ Shape sup.length need.length bs y.2.1 ∧ y.2.2.1.length = 64 ∧ y.2.2.2.1.length = 65 ∧ (Bf.Flow (pbOf fits sup need) (amt y.2.1) fun _ => 0) ∧ LexTo (pbOf fits sup need) (amt y.2.1) y.1 0 ∧ Mem.le M y.2.2.2.2.1 ∧ y.2.2.2.2.2.2.1 ≤ 9223372036854775807 ∧ Elems 1 RRowI y.2.2.2.2.1 y.2.2.2.2.2.2.2 (allocOf (amt y.2.1) need.length y.1)) (fun y => sup.length - y.1) (0, rws, tk, gv, M, none, 0, []) ⟨Nat.zero_le _, hsh, ltk, lgv, hfl, LexTo.start _ _, Mem.le.refl _, by simp, Elems.nil⟩ hsQ (fun y hy => ?_)
  clear hsh ltk lgv hfl hfi hL hL0 hls hs0
  clear rws tk gv
  obtain ⟨i, rws, tk, gv, M1, A6, c6, cells⟩ := y
  obtain ⟨hi, hsh, ltk, lgv, hfl, hlex, hM, hc6, hel⟩ := hy
  simp only at hi hsh ltk lgv hfl hlex hM hc6 hel
  dsimp only
  have hcl : cells.length = i := by have := hel.1; simpa using this
  simp only [stL, List.cons_append, List.nil_append]
  by_cases hin : i < sup.length
  rotate_left
  · have ei : i = sup.length := by omega
    subst ei
    repeat (first | ((with_reducible refine Tr.step rfl ?_); (first | (refine xmQ (z := ?_)) | (refine xaQ (z := ?_)) | (refine xiQ (z := ?_)))) | (with_reducible first | apply Tr.next | apply Tr.seq | apply Tr.region | apply Tr.nil | apply Tr.exit | apply Tr.ret | apply Tr.then_exit) | ((with_reducible refine Tr.in_exit ?_ ?_); (exact rfl)) | (refine Tr.cond_f rfl (by first | (with_reducible assumption) | (with_reducible rfl) | (with_reducible exact (not_not_intro rfl)) | omega) ?_))
    refine pbQ (r := ownS 32 1 A6 _ _ _) (k := fun M2 hm2 hok => ?_)
    have hfin := hM.trans hm2
    have hI : Ints2 M2 (.slice A6 (allocOf (amt rws) need.length sup.length).length c6) (allocOf (amt rws) need.length sup.length) := SlOf.ofOwn hok (by simp) hc6 (hel.mono RRowI.mono hm2)
    (refine dnQ (hL := by exact ⟨[_, _, _, _], rfl⟩) (k := ⟨rfl, ?_⟩))
    exact .inr (.inr ⟨hv, amt rws, LexTo.max hlex hfl, A6, c6, by simp only [allocOf_length]; rfl, hI⟩)
  obtain ⟨frow, hfr⟩ := get_of_lt (xs := fits) (i := i) (by omega)
  have hfrl := hv.rows frow (List.mem_of_getElem? hfr)
  have hf1 : Fits2 M1 (.slice A0 fits.length c0) fits := hf.mono RRowB.mono hM
  obtain ⟨hA0, fch, fat, fB, fk, rfl, hfB⟩ := hf1.elem hfr
  repeat (first | ((with_reducible refine Tr.step rfl ?_); (first | (refine xmQ (z := ?_)) | (refine xaQ (z := ?_)) | (refine xnQ (z := ?_)) | (refine xiQ (z := ?_)))) | (with_reducible first | apply Tr.next | apply Tr.seq | apply Tr.region | apply Tr.nil | apply Tr.skip | apply Tr.block) | (refine Tr.cond_t rfl (by first | (with_reducible assumption) | (with_reducible rfl) | (with_reducible exact (not_not_intro rfl)) | omega) ?_))
  refine Tr.loop (α := Nat × List (Nat × List Int) × List Int × List Int) (fun y => ⟨72, [(41, .int .i64 (y.1 : Int)), (40, .int .i64 (need.length : Int)), (11, .int .i64 (i : Int)), (36, .int .i64 (i : Int)), (35, .int .i64 (sup.length : Int)), (6, .slice A6 i c6), (10, .pointer (some ⟨o.sb, 0, none⟩)), (0, .slice A0 fits.length c0), (2, .slice A2 need.length c2)], [], M1, ownS 32 1 A6 i c6 cells :: (stL o (need.length + 1) y.2.1 lack y.2.2.1 y.2.2.2 ++ F)⟩)
    (fun y => y.1 ≤ need.length ∧ Shape sup.length need.length bs y.2.1 ∧ y.2.2.1.length = 64 ∧ y.2.2.2.length = 65 ∧ (Bf.Flow (pbOf fits sup need) (amt y.2.1) fun _ => 0) ∧ LexTo (pbOf fits sup need) (amt y.2.1) i y.1 ∧ Elems 1 RRowI M1 cells (allocOf (amt y.2.1) need.length i)) (fun y => need.length - y.1) (0, rws, tk, gv) ⟨Nat.zero_le _, hsh, ltk, lgv, hfl, hlex, hel⟩ hsQ (fun y hy => ?_)
  clear hsh ltk lgv hfl hlex hel
  obtain ⟨j, rws, tk, gv⟩ := y
  obtain ⟨hj, hsh, ltk, lgv, hfl, hlex, hel⟩ := hy
  simp only at hj hsh ltk lgv hfl hlex hel
  dsimp only
  simp only [stL, List.cons_append, List.nil_append]
  by_cases hjn : j < need.length
  · obtain ⟨x, hx⟩ := get_of_lt (xs := frow) (i := j) (by omega)
    obtain ⟨hA, hat⟩ := hfB.at hx
    have hfx : (fits.getD i []).getD j false = x := by rw [getD_of (d := []) hfr, getD_of (d := false) hx]
    cases x
    · repeat (first | ((with_reducible refine Tr.step rfl ?_); (first | (refine xmQ (z := ?_)) | (refine xaQ (z := ?_)) | (refine xMQ (z := ?_)) | ((with_reducible refine Knd.binOp ?_); (first | (refine xdQ (z := ?_)) | (refine xiQ (z := ?_)))) | (refine xxQ (z := ?_)))) | (with_reducible first | apply Tr.next | apply Tr.seq | apply Tr.region | apply Tr.nil | apply Tr.skip | apply Tr.block | apply Tr.in_normal) | (refine Tr.cond_bf rfl (by first | (with_reducible rfl) | (with_reducible assumption) | (with_reducible exact Bool.not_true) | (with_reducible exact Bool.not_false)) ?_) | (refine Tr.cond_t rfl (by first | (with_reducible assumption) | (with_reducible rfl) | (with_reducible exact (not_not_intro rfl)) | omega) ?_))
      refine Tr.again (j + 1, rws, tk, gv) ⟨by simp only; omega, hsh, ltk, lgv, hfl, hlex.skip hfl hin hjn hfx, hel⟩ (by simp only; omega) hsQ
    · repeat (first | ((with_reducible refine Tr.step rfl ?_); (first | (refine xmQ (z := ?_)) | (refine xaQ (z := ?_)) | (refine xMQ (z := ?_)) | (refine xiQ (z := ?_)) | (refine xxQ (z := ?_)))) | (with_reducible first | apply Tr.next | apply Tr.seq | apply Tr.region | apply Tr.nil | apply Tr.skip | apply Tr.block) | (refine Tr.cond_bt rfl (by first | (with_reducible rfl) | (with_reducible assumption) | (with_reducible exact Bool.not_true) | (with_reducible exact Bool.not_false)) ?_) | (refine Tr.cond_t rfl (by first | (with_reducible assumption) | (with_reducible rfl) | (with_reducible exact (not_not_intro rfl)) | omega) ?_))
      ((refine Tr.step rfl ?_))
      refine Exec.call (A := stL o (need.length + 1) rws lack tk gv) (F := ownS 32 1 A6 i c6 cells :: F) rfl (raise_fn M1 o A0 c0 fits sup need hv hf1 ho ho1 ho2 bs rws lack tk gv hsh hll hfl ltk lgv i j hin hjn hfx) (List.perm_middle (l₁ := [_, _, _, _])) rfl ?_
      rintro _ _ _ _ ⟨rfl, rws', tk', gv', rfl, hsh', ltk', lgv', hra, htop⟩
      have hco : allocOf (amt rws') need.length i = allocOf (amt rws) need.length i := allocOf_congr fun k hk c _ => by rw [hra.2.1 k hk]
      repeat (first | ((with_reducible refine Tr.step rfl ?_); (first | (refine xmQ (z := ?_)) | (refine xdQ (z := ?_)))) | (with_reducible first | apply Tr.next | apply Tr.region | apply Tr.nil | apply Tr.in_normal))
      refine ftQ (r := ownS 32 1 A6 _ _ _) (k := ?_)
      refine Tr.again (j + 1, rws', tk', gv') ⟨by simp only; omega, hsh', ltk', lgv', hra.1, hlex.step hra htop hin hjn, by simp only [hco]; exact hel⟩ (by simp only; omega) hsQ
  have ej : j = need.length := by omega
  subst ej
  obtain ⟨⟨bi, row⟩, hr0⟩ := get_of_lt (xs := rws) (i := i) (by rw [hsh.n]; exact hin)
  have hrl : row.length = need.length + 1 := hsh.row _ (List.mem_of_getElem? hr0)
  have hp' : (ptrV (need.length + 1) rws)[i]? = some (.slice (some ⟨bi, 0, none⟩) (need.length + 1) (need.length + 1)) := by simp [ptrV, hr0]
  have hn' := hsh.n
  refine Tr.own_some o.Am (by repeat (first | exact Has.here | apply Has.there)) (by omega) (fun hAm => ?_)
  unfold rowsR
  refine Tr.many_out (by repeat (first | exact Del.here | apply Del.there)) (rows_get hr0) ?_
  repeat (first | ((with_reducible refine Tr.step rfl ?_); (first | (refine xmQ (z := ?_)) | ((with_reducible refine Knd.load ?_); (first | (refine xlQ (z := ?_)) | (refine Exec.stab rfl (Stab.loadO rfl (tysOk.get rfl) rfl (by repeat (first | exact Has.here | apply Has.there)) (by assumption)) rfl ?_))) | (refine xfQ (z := ?_)) | (refine xnQ (z := ?_)) | ((with_reducible refine Knd.nilCheck ?_); (refine Exec.stab rfl (Stab.nilCheck rfl) rfl ?_)) | (refine xiQ (z := ?_)) | (refine xxQ (z := ?_)) | ((with_reducible refine Knd.slice ?_); ((refine Exec.stab rfl (Stab.slice_h rfl rfl (tysOk.get rfl) rfl (tysOk.get rfl) (by omega) (by omega)) rfl ?_))))) | (with_reducible first | apply Tr.next | apply Tr.seq | apply Tr.region | apply Tr.nil | apply Tr.exit | apply Tr.then_exit) | ((with_reducible refine Tr.in_exit ?_ ?_); (exact rfl)) | (refine Tr.cond_f rfl (by first | (with_reducible assumption) | (with_reducible rfl) | (with_reducible exact (not_not_intro rfl)) | omega) ?_))
  rw [show ((need.length : Int)).toNat = (row.take need.length).length by simp; omega]
  have htk : row.take need.length = rowOf (amt rws) need.length i := row_take hr0 hrl
  have htl : (row.take need.length).length = need.length := by simp; omega
  have hcln := clone_lend M1 bi need.length row hrl l2
  ((refine Tr.step rfl ?_))
  refine Exec.call (A := [box bi 3 (intV row)]) rfl hcln (List.Perm.refl _) rfl ?_
  rintro _ _ _ _ ⟨A1, rfl, rfl, B, k, rfl, hk, rfl⟩
  simp only [List.cons_append, List.nil_append]
  refine pbQ (r := ownS 3 1 B _ _ _) (k := fun M2 hm2 hok => ?_)
  have hI : Ints M2 (.slice B (row.take need.length).length k) (row.take need.length) := Ints.ofOwn hok rfl hk
  refine Tr.many_in (rows_get hr0) ?_
  rw [rows_set, set_same hr0]
  refine ftQ (r := ownS 32 1 o.Am _ _ _) (k := ?_)
  refine ftQ (r := box o.sb 129 _) (k := ?_)
  repeat (((with_reducible refine Tr.step rfl ?_); (((with_reducible refine Knd.buildSlice ?_); ((refine Exec.buildSlice (tysOk.get rfl) rfl (tysOk.get rfl) rfl rfl rfl rfl rfl (by repeat (first | exact BuildP.nil | ((apply BuildP.one); (rfl); (rfl); (first | rfl | assumption); (repeat (first | exact SetL.z | apply SetL.s))))) rfl (fun b => ?_)))))))
  refine Tr.cells (cs' := [.slice B (row.take need.length).length k]) (by repeat (first | exact Upd.here | apply Upd.there)) rfl ?_
  ((refine Tr.step rfl ?_))
  refine Exec.append (A := A6) (news := [.slice B (row.take need.length).length k]) rfl rfl (tysOk.get rfl) rfl (tysOk.get rfl) rfl rfl rfl rfl (by repeat (first | exact Del.here | apply Del.there)) (Src.box (by repeat (first | exact Has.here | apply Has.there))) rfl (by intro u hu; simp at hu; subst hu; rfl) (by omega) (by omega) rfl (fun A7 c7 hc7 => ?_)
  have hel2 : Elems 1 RRowI M2 (cells ++ [.slice B (row.take need.length).length k]) (allocOf (amt rws) need.length (i + 1)) := by
    rw [allocOf_succ, ← htk]
    exact (hel.mono RRowI.mono hm2).append (Elems.one rfl ⟨B, k, rfl, hI⟩)
  repeat (first | ((with_reducible refine Tr.step rfl ?_); (first | (refine xmQ (z := ?_)) | (refine xaQ (z := ?_)) | (refine xdQ (z := ?_)))) | (with_reducible first | apply Tr.next | apply Tr.region | apply Tr.nil | apply Tr.in_normal))
  refine gvQ (r := box _ 32 [_]) (k := ?_)

  refine Tr.again (i + 1, rws, tk, gv, M2, A7, c7, cells ++ [.slice B (row.take need.length).length k]) ⟨by simp only; omega, hsh, ltk, lgv, hfl, hlex.row (Nat.le_refl _), hM.trans hm2, hc7, hel2⟩ (by simp only; omega) hsQ
end Go.Proofs.Ytlifjajcmnkhfaa

/-
  Promises: require, must, twins, amounts and possible.
  Conditions: none.
-/
namespace Go.Proofs.Ytlifjajcmnkhfaa
open Go Bf
attribute [local irreducible] Tr Exec Stab HasTy Go.Addr.add IntKind.wrap
/-- a book in memory -/
def RBp (M : Mem) (v : Value) (k : Bp) : Prop := ∃ As cs Ar cr Af cf Ad cd, v = .agg #[.int .i64 k.known, .slice As k.sups.length cs, .slice Ar k.reqs.length cr, .slice Af k.fits.length cf, .slice Ad k.rds.length cd] ∧
  SlOf 6 RSpC M (.slice As k.sups.length cs) k.sups ∧ SlOf 6 RRqC M (.slice Ar k.reqs.length cr) k.reqs ∧ Fits2 M (.slice Af k.fits.length cf) k.fits ∧ SlOf 5 RRd M (.slice Ad k.rds.length cd) k.rds
theorem RBp.mono {M M' : Mem} {v : Value} {k : Bp} (h : RBp M v k) (hm : Mem.le M M') : RBp M' v k := by
  obtain ⟨As, cs, Ar, cr, Af, cf, Ad, cd, rfl, h1, h2, h3, h4⟩ := h
  exact ⟨As, cs, Ar, cr, Af, cf, Ad, cd, rfl, h1.mono RSpC.mono hm, h2.mono RRqC.mono hm, h3.mono RRowB.mono hm, h4.mono RRd.mono hm⟩
theorem RBp.zero (M : Mem) : RBp M (.agg #[.int .i64 0, .slice none 0 0, .slice none 0 0, .slice none 0 0, .slice none 0 0]) zP := ⟨none, 0, none, 0, none, 0, none, 0, rfl, SlOf.nil _ _ _, SlOf.nil _ _ _, SlOf.nil _ _ _, SlOf.nil _ _ _⟩
/-- what must and require panic with -/
def prCh (e : Int) : List PanicEntry := [{ v := .iface 49 (.int .i64 e), recovered := false }]
theorem prequire_y (M : Mem) : Fn0 Try.prog 58 [.bool true] M (fun _ M' => M = M') := by
  refine Fn.intro Try.func58 rfl rfl Try.ntmps58 rfl fun E F => ?_
  (repeat (first | ((with_reducible refine Tr.step rfl ?_); (first | (refine xmQ (z := ?_)) | ((with_reducible refine Knd.unOp ?_); (refine Exec.stab rfl (Stab.not rfl) rfl ?_)))) | (with_reducible first | apply Tr.next | apply Tr.seq | apply Tr.region | apply Tr.nil | apply Tr.skip) | (refine Tr.cond_bf rfl (by first | (with_reducible rfl) | (with_reducible assumption) | (with_reducible exact Bool.not_true) | (with_reducible exact Bool.not_false)) ?_)))
  (refine Tr.done (by first | exact .inl rfl | exact .inr rfl) rfl (by repeat (exact RVs.nil)) (by first | exact Mem.le.refl _ | assumption) (by exact ⟨[], rfl⟩) ⟨rfl, ?_⟩)
  rfl
theorem prequire_n (M : Mem) : FnP Try.prog 58 [.bool false] M [] (fun _ _ _ => False) (fun ch M' A' => ch = prCh 310 ∧ A' = [] ∧ M = M') := by
  refine FnP.intro Try.func58 rfl rfl Try.ntmps58 rfl fun E F => ?_
  (repeat (first | ((with_reducible refine Tr.step rfl ?_); (first | (refine xmQ (z := ?_)) | ((with_reducible refine Knd.makeInterface ?_); (refine Exec.stab rfl (Stab.makeIface rfl (by kernel_rfl)) rfl ?_)) | ((with_reducible refine Knd.panic ?_); (refine Exec.panic rfl ?_)) | ((with_reducible refine Knd.unOp ?_); (refine Exec.stab rfl (Stab.not rfl) rfl ?_)))) | (with_reducible first | apply Tr.next | apply Tr.seq | apply Tr.region | apply Tr.nil) | (refine Tr.cond_bt rfl (by first | (with_reducible rfl) | (with_reducible assumption) | (with_reducible exact Bool.not_true) | (with_reducible exact Bool.not_false)) ?_)))
  exact Tr.doneP (A' := []) (Mem.le.refl _) (by repeat (first | exact DropL.refl | apply DropL.skip)) ⟨rfl, rfl, rfl⟩
theorem must_y (M : Mem) : Fn0 Try.prog 63 [.int .i64 0] M (fun _ M' => M = M') := by
  refine Fn.intro Try.func63 rfl rfl Try.ntmps63 rfl fun E F => ?_
  (repeat (first | ((with_reducible refine Tr.step rfl ?_); (first | (refine xmQ (z := ?_)) | (refine xiQ (z := ?_)))) | (with_reducible first | apply Tr.next | apply Tr.seq | apply Tr.region | apply Tr.nil | apply Tr.skip) | (refine Tr.cond_f rfl (by first | (with_reducible assumption) | (with_reducible rfl) | (with_reducible exact (not_not_intro rfl)) | omega) ?_)))
  (refine Tr.done (by first | exact .inl rfl | exact .inr rfl) rfl (by repeat (exact RVs.nil)) (by first | exact Mem.le.refl _ | assumption) (by exact ⟨[], rfl⟩) ⟨rfl, ?_⟩)
  rfl
theorem must_n (M : Mem) (e : Int) (he : e ≠ 0) : FnP Try.prog 63 [.int .i64 e] M [] (fun _ _ _ => False) (fun ch M' A' => ch = prCh e ∧ A' = [] ∧ M = M') := by
  refine FnP.intro Try.func63 rfl rfl Try.ntmps63 rfl fun E F => ?_
  (repeat (first | ((with_reducible refine Tr.step rfl ?_); (first | (refine xmQ (z := ?_)) | ((with_reducible refine Knd.makeInterface ?_); (refine Exec.stab rfl (Stab.makeIface rfl (by kernel_rfl)) rfl ?_)) | ((with_reducible refine Knd.panic ?_); (refine Exec.panic rfl ?_)) | (refine xiQ (z := ?_)))) | (with_reducible first | apply Tr.next | apply Tr.seq | apply Tr.region | apply Tr.nil) | (refine Tr.cond_t rfl (by first | (with_reducible assumption) | (with_reducible rfl) | (with_reducible exact (not_not_intro rfl)) | omega) ?_)))
  exact Tr.doneP (A' := []) (Mem.le.refl _) (by repeat (first | exact DropL.refl | apply DropL.skip)) ⟨rfl, rfl, rfl⟩
/-- the numbers that a map holds, and how many -/
def Nums (es : List MapEntry) (l : List Int) : Prop := IntKeys es ∧ (∀ k, (valE k es).isSome = true ↔ k ∈ l) ∧ es.length ≤ l.length ∧ (es.length = l.length ↔ l.Nodup)
theorem Nums.nil : Nums [] [] := ⟨IntKeys.nil, fun k => by simp [valE, lookE], by simp, by simp⟩
theorem Nums.add {es : List MapEntry} {l : List Int} (h : Nums es l) (x : Int) (v : Value) (cl : Nat) : Nums (updE x v es cl).1 (l ++ [x]) := by
  obtain ⟨h1, h2, h3, h4⟩ := h
  refine ⟨updE_keys h1, fun k => ?_, ?_, ?_⟩
  · rw [updE_val]
    by_cases e : k = x
    · subst e; simp
    · simp [e, h2 k]
  · rw [updE_len]
    split <;> simp <;> omega
  · rw [updE_len]
    by_cases hx : x ∈ l
    · rw [if_pos ((h2 x).2 hx)]
      constructor
      · intro h; simp at h; omega
      · intro h
        rw [List.nodup_append] at h
        exact absurd rfl (h.2.2 x hx x (by simp))
    · rw [if_neg (fun h => hx ((h2 x).1 h))]
      constructor
      · intro h
        have h5 := h4.1 (by simpa using h)
        rw [List.nodup_append]
        exact ⟨h5, by simp, fun a ha b hb => by simp at hb; subst hb; exact fun e => hx (e ▸ ha)⟩
      · intro h
        have := h4.2 (List.nodup_append.1 h).1
        simp [this]
theorem nums_take {α : Type} (f : α → Int) {l : List α} {i : Nat} {x : α} (h : l[i]? = some x) : (l.take (i + 1)).map f = (l.take i).map f ++ [f x] := by
  rw [List.take_add_one, h, List.map_append]; rfl
set_option maxHeartbeats 4000000 in
theorem twins_fn (M : Mem) (A : Option Addr) (c : Nat) (l : List Sp) (hl : SlOf 6 RSpC M (.slice A l.length c) l) : Fn0 Try.prog 28 [.slice A l.length c] M (fun r M' => (∃ b : Bool, r = .bool b ∧ (b = false ↔ (l.map (·.no)).Nodup)) ∧ M = M') := by
  have hll := hl.len_le
  refine Fn.intro Try.func28 rfl rfl Try.ntmps28 rfl fun E F => ?_
  (repeat (first | ((with_reducible refine Tr.step rfl ?_); (first | (refine xmQ (z := ?_)) | (refine xaQ (z := ?_)) | (refine xnQ (z := ?_)) | ((with_reducible refine Knd.makeMap ?_); (refine Exec.makeMap rfl (fun b => ?_))))) | (with_reducible first | apply Tr.next | apply Tr.seq | apply Tr.region | apply Tr.nil | apply Tr.block)))
  generalize b = mb
  refine Tr.loop (α := Nat × List MapEntry × Nat) (fun y => ⟨22, [(9, .int .i64 (y.1 : Int)), (8, .int .i64 (l.length : Int)), (7, .slice A l.length c), (3, .map (some mb)), (0, .slice A l.length c)], [], M, mapR mb y.2.1 y.2.2 :: F⟩)
    (fun y => y.1 ≤ l.length ∧ Nums y.2.1 ((l.take y.1).map (·.no))) (fun y => l.length - y.1) (0, [], 0) ⟨Nat.zero_le _, Nums.nil⟩ hsQ (fun y hy => ?_)
  obtain ⟨i, es, cl⟩ := y
  obtain ⟨hi, hn⟩ := hy
  simp only at hi hn
  dsimp only
  by_cases hlt : i < l.length
  · obtain ⟨x, hx⟩ := get_of_lt hlt
    obtain ⟨hA, ch, hat, rfl⟩ := hl.elem hx
    simp only [spC] at hat
    have hkeys := hn.1
    (repeat (first | ((with_reducible refine Tr.step rfl ?_); (first | (refine xmQ (z := ?_)) | ((with_reducible refine Knd.load ?_); (first | (refine xlQ (z := ?_)) | (refine Exec.stab rfl (Stab.loadMA rfl (tysOk.get rfl) rfl (by assumption) (by first | rfl | assumption)) rfl ?_))) | (refine xfQ (z := ?_)) | ((with_reducible refine Knd.binOp ?_); (first | (refine xdQ (z := ?_)) | (refine xiQ (z := ?_)))) | ((with_reducible refine Knd.store ?_); (refine Exec.storeW rfl rfl (tysOk.get rfl) (by repeat (first | exact Upd.here | apply Upd.there)) rfl rfl (by repeat (first | (with_reducible assumption) | exact AllOne.nil | exact AllOne.bytes _ | refine AllOne.cons (by first | rfl | assumption) ?_)) ?_)) | ((with_reducible refine Knd.alloc ?_); (refine Exec.alloc (tysOk.get rfl) rfl rfl (fun b => ?_))) | ((with_reducible refine Knd.mapUpdate ?_); (refine Exec.mapUpdate rfl rfl rfl (tysOk.get rfl) rfl (tysOk.get rfl) rfl (by assumption) (by repeat (first | exact Upd.here | apply Upd.there)) ?_)) | (refine xxQ (z := ?_)))) | (with_reducible first | apply Tr.next | apply Tr.seq | apply Tr.region | apply Tr.nil | apply Tr.skip | apply Tr.block | apply Tr.in_normal) | (refine Tr.cond_t rfl (by first | (with_reducible assumption) | (with_reducible rfl) | (with_reducible exact (not_not_intro rfl)) | omega) ?_)))
    refine Tr.again (i + 1, (updE x.no (.bool true) es cl).1, (updE x.no (.bool true) es cl).2) ⟨by simp only; omega, ?_⟩ (by simp only; omega) hsQ
    simp only
    rw [nums_take (·.no) hx]
    exact hn.add _ _ _
  · have ei : i = l.length := by omega
    subst ei
    rw [List.take_length] at hn
    obtain ⟨-, -, n1, n2⟩ := hn
    rw [List.length_map] at n1 n2
    by_cases hb : es.length < l.length
    · (repeat (first | ((with_reducible refine Tr.step rfl ?_); (first | (refine xmQ (z := ?_)) | (refine xaQ (z := ?_)) | ((with_reducible refine Knd.len ?_); (first | (refine xnQ (z := ?_)) | (refine Exec.stab rfl (Stab.lenMap rfl (tysOk.get rfl) rfl (by repeat (first | exact Has.here | apply Has.there))) rfl ?_))) | (refine xiQ (z := ?_)))) | (with_reducible first | apply Tr.next | apply Tr.seq | apply Tr.region | apply Tr.nil | apply Tr.exit | apply Tr.ret | apply Tr.then_exit) | ((with_reducible refine Tr.in_exit ?_ ?_); (exact rfl)) | (refine Tr.cond_f rfl (by first | (with_reducible assumption) | (with_reducible rfl) | (with_reducible exact (not_not_intro rfl)) | omega) ?_)))
      (refine dnQ (hL := by exact ⟨[_], rfl⟩) (k := ⟨rfl, ?_⟩))
      exact ⟨⟨true, by rw [decide_eq_true (by omega)]; rfl, by simp only [Bool.true_eq_false, false_iff, ← n2]; omega⟩, rfl⟩
    · (repeat (first | ((with_reducible refine Tr.step rfl ?_); (first | (refine xmQ (z := ?_)) | (refine xaQ (z := ?_)) | ((with_reducible refine Knd.len ?_); (first | (refine xnQ (z := ?_)) | (refine Exec.stab rfl (Stab.lenMap rfl (tysOk.get rfl) rfl (by repeat (first | exact Has.here | apply Has.there))) rfl ?_))) | (refine xiQ (z := ?_)))) | (with_reducible first | apply Tr.next | apply Tr.seq | apply Tr.region | apply Tr.nil | apply Tr.exit | apply Tr.ret | apply Tr.then_exit) | ((with_reducible refine Tr.in_exit ?_ ?_); (exact rfl)) | (refine Tr.cond_f rfl (by first | (with_reducible assumption) | (with_reducible rfl) | (with_reducible exact (not_not_intro rfl)) | omega) ?_)))
      (refine dnQ (hL := by exact ⟨[_], rfl⟩) (k := ⟨rfl, ?_⟩))
      exact ⟨⟨false, by rw [decide_eq_false (by omega)]; rfl, by simp only [true_iff, ← n2]; omega⟩, rfl⟩
set_option maxHeartbeats 8000000 in
theorem amounts_fn (M : Mem) (k : Bp) (As Ar Af Ad : Option Addr) (cs cr cf cd : Nat) (h1 : SlOf 6 RSpC M (.slice As k.sups.length cs) k.sups) (h2 : SlOf 6 RRqC M (.slice Ar k.reqs.length cr) k.reqs) (_ : Fits2 M (.slice Af k.fits.length cf) k.fits) (_ : SlOf 5 RRd M (.slice Ad k.rds.length cd) k.rds) (hs64 : k.sups.length ≤ 1000000) (hr64 : k.reqs.length ≤ 1000000) :
    Fn0 Try.prog 64 [.agg #[.int .i64 k.known, .slice As k.sups.length cs, .slice Ar k.reqs.length cr, .slice Af k.fits.length cf, .slice Ad k.rds.length cd]] M (fun r M' => ∃ A1 c1 A2 c2, r = .tuple #[.slice A1 (amS k.sups).length c1, .slice A2 (amR k.reqs).length c2] ∧ Ints M' (.slice A1 (amS k.sups).length c1) (amS k.sups) ∧ Ints M' (.slice A2 (amR k.reqs).length c2) (amR k.reqs)) := by
  refine Fn.intro Try.func64 rfl rfl Try.ntmps64 rfl fun E F => ?_
  (repeat (first | ((with_reducible refine Tr.step rfl ?_); (first | (refine xmQ (z := ?_)) | (refine xaQ (z := ?_)) | (refine xlQ (z := ?_)) | (refine xfQ (z := ?_)) | (refine xnQ (z := ?_)) | ((with_reducible refine Knd.box ?_); (refine Exec.box rfl rfl (fun b => ?_))))) | (with_reducible first | apply Tr.next | apply Tr.seq | apply Tr.region | apply Tr.nil | apply Tr.block)))
  generalize b = b1
  refine Tr.own_nil 3 1 ?_
  refine Tr.loop (α := Nat × Option Addr × Nat) (fun y => ⟨36, [(11, .int .i64 (y.1 : Int)), (10, .int .i64 (k.sups.length : Int)), (9, .slice As k.sups.length cs), (2, .slice y.2.1 y.1 y.2.2), (3, .slice none 0 0), (1, .pointer (some ⟨b1, 0, none⟩))], [], M, ownS 3 1 y.2.1 y.1 y.2.2 (intV ((k.sups.take y.1).map (·.amount))) :: box b1 44 [.int .i64 k.known, .slice As k.sups.length cs, .slice Ar k.reqs.length cr, .slice Af k.fits.length cf, .slice Ad k.rds.length cd] :: F⟩)
    (fun y => y.1 ≤ k.sups.length ∧ y.2.2 ≤ 9223372036854775807) (fun y => k.sups.length - y.1) (0, none, 0) ⟨Nat.zero_le _, by simp⟩ hsQ (fun y hy => ?_)
  obtain ⟨i, A1, c1⟩ := y
  obtain ⟨hi, hc1⟩ := hy
  simp only at hi hc1
  dsimp only
  by_cases hlt : i < k.sups.length
  · obtain ⟨y, hy⟩ := get_of_lt hlt
    obtain ⟨hA, ch, hat, rfl⟩ := h1.elem hy
    simp only [spC] at hat
    have e1 := nums_take (·.amount) hy
    (repeat (first | ((with_reducible refine Tr.step rfl ?_); (first | (refine xmQ (z := ?_)) | ((with_reducible refine Knd.load ?_); (first | (refine xlQ (z := ?_)) | (refine Exec.stab rfl (Stab.loadMA rfl (tysOk.get rfl) rfl (by assumption) (by first | rfl | assumption)) rfl ?_))) | (refine xfQ (z := ?_)) | (refine xiQ (z := ?_)) | ((with_reducible refine Knd.store ?_); (refine Exec.storeW rfl rfl (tysOk.get rfl) (by repeat (first | exact Upd.here | apply Upd.there)) rfl rfl (by repeat (first | (with_reducible assumption) | exact AllOne.nil | exact AllOne.bytes _ | refine AllOne.cons (by first | rfl | assumption) ?_)) ?_)) | ((with_reducible refine Knd.alloc ?_); (refine Exec.alloc (tysOk.get rfl) rfl rfl (fun b => ?_))) | (refine xxQ (z := ?_)) | ((with_reducible refine Knd.buildSlice ?_); (refine Exec.buildSlice (tysOk.get rfl) rfl (tysOk.get rfl) rfl rfl rfl rfl rfl (by repeat (first | exact BuildP.nil | ((apply BuildP.one); (rfl); (rfl); (first | rfl | assumption); (repeat (first | exact SetL.z | apply SetL.s))) | ((apply BuildP.many); (rfl); (rfl); (rfl); (rfl); (repeat (first | exact PutL.nil | ((apply PutL.cons); (repeat (first | exact SetL.z | apply SetL.s)))))))) rfl (fun b => ?_))))) | (with_reducible first | apply Tr.next | apply Tr.seq | apply Tr.region | apply Tr.nil | apply Tr.skip | apply Tr.block) | (refine Tr.cond_t rfl (by first | (with_reducible assumption) | (with_reducible rfl) | (with_reducible exact (not_not_intro rfl)) | omega) ?_)))
    ((refine Tr.step rfl ?_))
    refine Exec.append (news := [.int .i64 y.amount]) rfl rfl (tysOk.get rfl) rfl (tysOk.get rfl) rfl rfl rfl rfl (by repeat (first | exact Del.here | apply Del.there)) (Src.box (by repeat (first | exact Has.here | apply Has.there))) rfl (by intro u hu; simp at hu; subst hu; rfl) (by omega) (by omega) rfl (fun A3 c3 hc3 => ?_)
    refine gvQ (r := box b 3 _) (k := ?_)
    rw [show intV ((k.sups.take i).map (·.amount)) ++ [Value.int .i64 y.amount] = intV ((k.sups.take (i + 1)).map (·.amount)) by rw [e1, intV_append]; rfl]
    (repeat (first | ((with_reducible refine Tr.step rfl ?_); (first | (refine xmQ (z := ?_)) | (refine xaQ (z := ?_)) | (refine xdQ (z := ?_)))) | (with_reducible first | apply Tr.next | apply Tr.region | apply Tr.nil | apply Tr.in_normal)))
    refine gvQ (r := box _ 77 _) (k := ?_)
    exact Tr.again (i + 1, A3, c3) ⟨by simp only; omega, hc3⟩ (by simp only; omega) hsQ
  have ei : i = k.sups.length := by omega
  subst ei
  rw [List.take_length]
  (repeat (first | ((with_reducible refine Tr.step rfl ?_); (first | (refine xmQ (z := ?_)) | (refine xlQ (z := ?_)) | (refine xfQ (z := ?_)) | (refine xnQ (z := ?_)) | (refine xiQ (z := ?_)))) | (with_reducible first | apply Tr.next | apply Tr.seq | apply Tr.region | apply Tr.nil | apply Tr.block | apply Tr.exit | apply Tr.then_exit) | ((with_reducible refine Tr.in_exit ?_ ?_); (exact rfl)) | (refine Tr.cond_f rfl (by first | (with_reducible assumption) | (with_reducible rfl) | (with_reducible exact (not_not_intro rfl)) | omega) ?_)))
  refine Tr.own_nil 3 1 ?_
  refine Tr.loop (α := Nat × Option Addr × Nat) (fun y => ⟨36, [(24, .int .i64 (y.1 : Int)), (23, .int .i64 (k.reqs.length : Int)), (22, .slice Ar k.reqs.length cr), (3, .slice y.2.1 y.1 y.2.2), (2, .slice A1 k.sups.length c1), (1, .pointer (some ⟨b1, 0, none⟩))], [], M, ownS 3 1 y.2.1 y.1 y.2.2 (intV ((k.reqs.take y.1).map (·.amount))) :: ownS 3 1 A1 k.sups.length c1 (intV (k.sups.map (·.amount))) :: box b1 44 [.int .i64 k.known, .slice As k.sups.length cs, .slice Ar k.reqs.length cr, .slice Af k.fits.length cf, .slice Ad k.rds.length cd] :: F⟩)
    (fun y => y.1 ≤ k.reqs.length ∧ y.2.2 ≤ 9223372036854775807) (fun y => k.reqs.length - y.1) (0, none, 0) ⟨Nat.zero_le _, by simp⟩ hsQ (fun y hy => ?_)
  obtain ⟨i, A2, c2⟩ := y
  obtain ⟨hi, hc2⟩ := hy
  simp only at hi hc2
  dsimp only
  by_cases hlt : i < k.reqs.length
  · obtain ⟨y, hy⟩ := get_of_lt hlt
    obtain ⟨hA, ch, hat, rfl⟩ := h2.elem hy
    simp only [rqC] at hat
    have e1 := nums_take (·.amount) hy
    (repeat (first | ((with_reducible refine Tr.step rfl ?_); (first | (refine xmQ (z := ?_)) | ((with_reducible refine Knd.load ?_); (first | (refine xlQ (z := ?_)) | (refine Exec.stab rfl (Stab.loadMA rfl (tysOk.get rfl) rfl (by assumption) (by first | rfl | assumption)) rfl ?_))) | (refine xfQ (z := ?_)) | (refine xiQ (z := ?_)) | ((with_reducible refine Knd.store ?_); (refine Exec.storeW rfl rfl (tysOk.get rfl) (by repeat (first | exact Upd.here | apply Upd.there)) rfl rfl (by repeat (first | (with_reducible assumption) | exact AllOne.nil | exact AllOne.bytes _ | refine AllOne.cons (by first | rfl | assumption) ?_)) ?_)) | ((with_reducible refine Knd.alloc ?_); (refine Exec.alloc (tysOk.get rfl) rfl rfl (fun b => ?_))) | (refine xxQ (z := ?_)) | ((with_reducible refine Knd.buildSlice ?_); (refine Exec.buildSlice (tysOk.get rfl) rfl (tysOk.get rfl) rfl rfl rfl rfl rfl (by repeat (first | exact BuildP.nil | ((apply BuildP.one); (rfl); (rfl); (first | rfl | assumption); (repeat (first | exact SetL.z | apply SetL.s))) | ((apply BuildP.many); (rfl); (rfl); (rfl); (rfl); (repeat (first | exact PutL.nil | ((apply PutL.cons); (repeat (first | exact SetL.z | apply SetL.s)))))))) rfl (fun b => ?_))))) | (with_reducible first | apply Tr.next | apply Tr.seq | apply Tr.region | apply Tr.nil | apply Tr.skip | apply Tr.block) | (refine Tr.cond_t rfl (by first | (with_reducible assumption) | (with_reducible rfl) | (with_reducible exact (not_not_intro rfl)) | omega) ?_)))
    ((refine Tr.step rfl ?_))
    refine Exec.append (news := [.int .i64 y.amount]) rfl rfl (tysOk.get rfl) rfl (tysOk.get rfl) rfl rfl rfl rfl (by repeat (first | exact Del.here | apply Del.there)) (Src.box (by repeat (first | exact Has.here | apply Has.there))) rfl (by intro u hu; simp at hu; subst hu; rfl) (by omega) (by omega) rfl (fun A3 c3 hc3 => ?_)
    refine gvQ (r := box b 3 _) (k := ?_)
    rw [show intV ((k.reqs.take i).map (·.amount)) ++ [Value.int .i64 y.amount] = intV ((k.reqs.take (i + 1)).map (·.amount)) by rw [e1, intV_append]; rfl]
    (repeat (first | ((with_reducible refine Tr.step rfl ?_); (first | (refine xmQ (z := ?_)) | (refine xaQ (z := ?_)) | (refine xdQ (z := ?_)))) | (with_reducible first | apply Tr.next | apply Tr.region | apply Tr.nil | apply Tr.in_normal)))
    refine gvQ (r := box _ 46 _) (k := ?_)
    exact Tr.again (i + 1, A3, c3) ⟨by simp only; omega, hc3⟩ (by simp only; omega) hsQ
  have ei : i = k.reqs.length := by omega
  subst ei
  rw [List.take_length]
  refine pbQ (r := ownS 3 1 A2 _ _ _) (k := fun M2 hm2 hok => ?_)
  refine pbQ (r := ownS 3 1 A1 _ _ _) (k := fun M3 hm3 hok2 => ?_)
  have hI1 : Ints M3 (.slice A1 (amS k.sups).length c1) (amS k.sups) := Ints.ofOwn hok2 (by simp [amS]) hc1
  have hI2 : Ints M3 (.slice A2 (amR k.reqs).length c2) (amR k.reqs) := (Ints.ofOwn hok (by simp) hc2).mono RI.mono hm3
  have hmm := hm2.trans hm3
  rw [show k.sups.length = (amS k.sups).length by simp [amS], show k.reqs.length = (amR k.reqs).length by simp [amR]]
  (repeat (first | ((with_reducible refine Tr.step rfl ?_); (first | (refine xmQ (z := ?_)) | (refine xaQ (z := ?_)) | (refine xiQ (z := ?_)))) | (with_reducible first | apply Tr.next | apply Tr.seq | apply Tr.region | apply Tr.nil | apply Tr.exit | apply Tr.ret | apply Tr.then_exit) | ((with_reducible refine Tr.in_exit ?_ ?_); (exact rfl)) | (refine Tr.cond_f rfl (by first | (with_reducible assumption) | (with_reducible rfl) | (with_reducible exact (not_not_intro rfl)) | omega) ?_)))
  (refine dnQ (hL := by exact ⟨[_], rfl⟩) (k := ⟨rfl, ?_⟩))
  exact ⟨_, _, _, _, rfl, hI1, hI2⟩
theorem sum_take {l : List Int} {i : Nat} {x : Int} (h : l[i]? = some x) : (l.take (i + 1)).sum = (l.take i).sum + x := by
  rw [List.take_add_one, h, Option.toList_some, List.sum_append]
  simp
theorem sum_bound : ∀ {l : List Int} {n : Nat}, (∀ x ∈ l, 0 ≤ x ∧ x ≤ 1048576) → l.length ≤ n → 0 ≤ l.sum ∧ l.sum ≤ 1048576 * (n : Int)
  | [], n, _, _ => by simp; omega
  | x :: l, n, h, hn => by
    obtain ⟨n, rfl⟩ : ∃ m, n = m + 1 := ⟨n - 1, by simp at hn; omega⟩
    have h1 := sum_bound (l := l) (n := n) (fun y hy => h y (by simp [hy])) (by simpa using hn)
    have h2 := h x (by simp)
    rw [List.sum_cons]
    omega
set_option maxHeartbeats 8000000 in
theorem bpossible_fn0 (M : Mem) (k : Bp) (As Ar Af Ad : Option Addr) (cs cr cf cd : Nat) (h1 : SlOf 6 RSpC M (.slice As k.sups.length cs) k.sups) (h2 : SlOf 6 RRqC M (.slice Ar k.reqs.length cr) k.reqs) (h3 : Fits2 M (.slice Af k.fits.length cf) k.fits) (h4 : SlOf 5 RRd M (.slice Ad k.rds.length cd) k.rds) (hv : Vld k.fits (amS k.sups) (amR k.reqs)) :
    Fn0 Try.prog 61 [.agg #[.int .i64 k.known, .slice As k.sups.length cs, .slice Ar k.reqs.length cr, .slice Af k.fits.length cf, .slice Ad k.rds.length cd]] M (fun r _ => ∃ b : Bool, r = .bool b ∧ (b = true ↔ Feas (pbB k))) := by
  have v1 := hv.ls
  have v2 := hv.ln
  simp only [amS, amR, List.length_map] at v1 v2
  refine Fn.intro Try.func61 rfl rfl Try.ntmps61 rfl fun E F => ?_
  (repeat (first | ((with_reducible refine Tr.step rfl ?_); (first | (refine xaQ (z := ?_)) | (refine xwQ (z := ?_)) | ((with_reducible refine Knd.box ?_); (refine Exec.box rfl rfl (fun b => ?_))))) | (with_reducible first | apply Tr.next | apply Tr.seq | apply Tr.region | apply Tr.nil)))
  ((refine Tr.step rfl ?_)); refine Exec.call0 rfl (amounts_fn M k As Ar Af Ad cs cr cf cd h1 h2 h3 h4 (by omega) (by omega)) rfl ?_
  rintro _ M1 hm1 ⟨A1, c1, A2, c2, rfl, hI1, hI2⟩
  (repeat (first | ((with_reducible refine Tr.step rfl ?_); (first | (refine xmQ (z := ?_)) | (refine xaQ (z := ?_)) | (refine xnQ (z := ?_)) | ((with_reducible refine Knd.extract ?_); (refine Exec.stab rfl (Stab.extract rfl rfl) rfl ?_)))) | (with_reducible first | apply Tr.next | apply Tr.seq | apply Tr.region | apply Tr.nil | apply Tr.block)))
  generalize b = b1
  refine Tr.loop (α := Nat) (fun i => ⟨40, [(17, .int .i64 (i : Int)), (16, .int .i64 ((amR k.reqs).length : Int)), (15, .slice A2 (amR k.reqs).length c2), (5, .int .i64 ((amR k.reqs).take i).sum), (3, .slice A1 (amS k.sups).length c1), (4, .slice A2 (amR k.reqs).length c2), (1, .pointer (some ⟨b1, 0, none⟩))], [], M1, box b1 44 [.int .i64 k.known, .slice As k.sups.length cs, .slice Ar k.reqs.length cr, .slice Af k.fits.length cf, .slice Ad k.rds.length cd] :: F⟩)
    (fun i => i ≤ (amR k.reqs).length) (fun i => (amR k.reqs).length - i) 0 (Nat.zero_le _) hsQ (fun i hi => ?_)
  have v3 := hv.ln
  by_cases hlt : i < (amR k.reqs).length
  · obtain ⟨x, hx⟩ := get_of_lt hlt
    obtain ⟨hA, hat⟩ := hI2.at hx
    have e := sum_take hx
    have b1 := sum_bound (l := (amR k.reqs).take i) (n := 64) (fun y hy => hv.rn y (List.mem_of_mem_take hy)) (by simp; omega)
    have b2 := hv.rn x (List.mem_of_getElem? hx)
    (repeat (first | ((with_reducible refine Tr.step rfl ?_); (first | (refine xmQ (z := ?_)) | (refine xaQ (z := ?_)) | (refine xMQ (z := ?_)) | ((with_reducible refine Knd.binOp ?_); (first | (refine xdQ (z := ?_)) | (refine xiQ (z := ?_)))) | (refine xxQ (z := ?_)))) | (with_reducible first | apply Tr.next | apply Tr.seq | apply Tr.region | apply Tr.nil | apply Tr.skip | apply Tr.block | apply Tr.in_normal) | (refine Tr.cond_t rfl (by first | (with_reducible assumption) | (with_reducible rfl) | (with_reducible exact (not_not_intro rfl)) | omega) ?_)))
    rw [← e]
    exact Tr.again (i + 1) (by omega) (by omega) hsQ
  have ei : i = (amR k.reqs).length := by omega
  subst ei
  rw [List.take_length]
  have rs : I64s (amS k.sups) := fun x hx => by have := hv.rs x hx; omega
  have rn : I64s (amR k.reqs) := fun x hx => by have := hv.rn x hx; omega
  (repeat (first | ((with_reducible refine Tr.step rfl ?_); (first | (refine xmQ (z := ?_)) | (refine xlQ (z := ?_)) | (refine xfQ (z := ?_)) | (refine xiQ (z := ?_)))) | (with_reducible first | apply Tr.next | apply Tr.seq | apply Tr.region | apply Tr.nil | apply Tr.exit | apply Tr.then_exit) | ((with_reducible refine Tr.in_exit ?_ ?_); (exact rfl)) | (refine Tr.cond_f rfl (by first | (with_reducible assumption) | (with_reducible rfl) | (with_reducible exact (not_not_intro rfl)) | omega) ?_)))
  ((refine Tr.step rfl ?_)); refine Exec.call0 rfl (most2_fn M1 Af A1 A2 cf c1 c2 k.fits (amS k.sups) (amR k.reqs) (h3.mono RRowB.mono hm1) hI1 hI2 rs rn) rfl ?_
  rintro _ _ _ ⟨⟨hbad, -⟩ | ⟨-, L, rfl, hL⟩, rfl⟩
  · rw [vld_iff.2 hv] at hbad
    cases hbad
  have hz := hL.zero hv.sup0 hv.need0
  by_cases h0 : (amR k.reqs).sum - L = (amR k.reqs).sum
  · (repeat (first | ((with_reducible refine Tr.step rfl ?_); (first | (refine xmQ (z := ?_)) | (refine xaQ (z := ?_)) | (refine xiQ (z := ?_)) | ((with_reducible refine Knd.pick ?_); (refine Exec.stab rfl (Stab.pick_td rfl (by first | (with_reducible assumption) | (with_reducible rfl) | (with_reducible exact (not_not_intro rfl)) | omega) rfl) rfl ?_)) | ((with_reducible refine Knd.extract ?_); (refine Exec.stab rfl (Stab.extract rfl rfl) rfl ?_)))) | (with_reducible first | apply Tr.next | apply Tr.seq | apply Tr.region | apply Tr.nil) | ((refine Tr.guard_y rfl rfl rfl (by first | (with_reducible assumption) | (with_reducible rfl) | (with_reducible exact (not_not_intro rfl)) | omega) ?_); (first | (refine xmQ (z := ?_)) | (refine xiQ (z := ?_)))) | (with_reducible refine Tr.ret ?_)))
    (refine dnQ (hL := by exact ⟨[_], rfl⟩) (k := ⟨rfl, ?_⟩))
    exact ⟨true, by rw [decide_eq_true h0]; rfl, ⟨fun _ => hz.1 (by omega), fun _ => rfl⟩⟩
  · (repeat (first | ((with_reducible refine Tr.step rfl ?_); (first | (refine xmQ (z := ?_)) | (refine xaQ (z := ?_)) | (refine xiQ (z := ?_)) | ((with_reducible refine Knd.pick ?_); (refine Exec.stab rfl (Stab.pick_td rfl (by first | (with_reducible assumption) | (with_reducible rfl) | (with_reducible exact (not_not_intro rfl)) | omega) rfl) rfl ?_)) | ((with_reducible refine Knd.extract ?_); (refine Exec.stab rfl (Stab.extract rfl rfl) rfl ?_)))) | (with_reducible first | apply Tr.next | apply Tr.seq | apply Tr.region | apply Tr.nil) | ((refine Tr.guard_y rfl rfl rfl (by first | (with_reducible assumption) | (with_reducible rfl) | (with_reducible exact (not_not_intro rfl)) | omega) ?_); (first | (refine xmQ (z := ?_)) | (refine xiQ (z := ?_)))) | (with_reducible refine Tr.ret ?_)))
    (refine dnQ (hL := by exact ⟨[_], rfl⟩) (k := ⟨rfl, ?_⟩))
    exact ⟨false, by rw [decide_eq_false h0]; rfl, ⟨fun h => (by cases h), fun h => absurd (by rw [hz.2 h]; omega) h0⟩⟩
theorem bpossible_fn (M : Mem) (k : Bp) (As Ar Af Ad : Option Addr) (cs cr cf cd : Nat) (h1 : SlOf 6 RSpC M (.slice As k.sups.length cs) k.sups) (h2 : SlOf 6 RRqC M (.slice Ar k.reqs.length cr) k.reqs) (h3 : Fits2 M (.slice Af k.fits.length cf) k.fits) (h4 : SlOf 5 RRd M (.slice Ad k.rds.length cd) k.rds) (hv : Vld k.fits (amS k.sups) (amR k.reqs)) :
    Fn0 Try.prog 61 [.agg #[.int .i64 k.known, .slice As k.sups.length cs, .slice Ar k.reqs.length cr, .slice Af k.fits.length cf, .slice Ad k.rds.length cd]] M (fun r M' => (∃ b : Bool, r = .bool b ∧ (b = true ↔ Feas (pbB k))) ∧ M = M') :=
  Fn.mono (Fn.forget (R := fun r A' => A' = [] ∧ ∃ b : Bool, r = .bool b ∧ (b = true ↔ Feas (pbB k))) (bpossible_fn0 M k As Ar Af Ad cs cr cf cd h1 h2 h3 h4 hv)) fun _ _ _ _ ⟨⟨a, b⟩, c⟩ => ⟨a, b, c⟩
end Go.Proofs.Ytlifjajcmnkhfaa

/-
  Promises: maker and check.
  Conditions: none.
-/
namespace Go.Proofs.Ytlifjajcmnkhfaa
open Go Bf
attribute [local irreducible] Tr Exec Stab HasTy Go.Addr.add IntKind.wrap
theorem maker_fn (M : Mem) (ws : List Value) (k : Bp) (As Ar Af Ad : Option Addr) (cs cr cf cd : Nat) :
    Bf.Fn Try.prog 27 [.agg ws.toArray, .agg #[.int .i64 k.known, .slice As k.sups.length cs, .slice Ar k.reqs.length cr, .slice Af k.fits.length cf, .slice Ad k.rds.length cd]] M [] (fun v M' A' => ∃ b2 b3, v = .func (.func 65) #[] #[.pointer (some ⟨b2, 0, none⟩), .pointer (some ⟨b3, 0, none⟩)] ∧ M = M' ∧ A' = [box b3 44 [.int .i64 k.known, .slice As k.sups.length cs, .slice Ar k.reqs.length cr, .slice Af k.fits.length cf, .slice Ad k.rds.length cd], box b2 38 ws]) := by
  refine Fn.intro Try.func27 rfl rfl Try.ntmps27 rfl fun E F => ?_
  (repeat (first | ((with_reducible refine Tr.step rfl ?_); (first | (refine xaQ (z := ?_)) | ((with_reducible refine Knd.makeFunc ?_); (refine Exec.stab rfl (Stab.makeFunc rfl rfl) rfl ?_)) | ((with_reducible refine Knd.box ?_); (refine Exec.box rfl rfl (fun b => ?_))))) | (with_reducible first | apply Tr.next | apply Tr.seq | apply Tr.region | apply Tr.nil | apply Tr.ret)))
  refine Tr.doneA (A' := [box _ 44 [.int .i64 k.known, .slice As k.sups.length cs, .slice Ar k.reqs.length cr, .slice Af k.fits.length cf, .slice Ad k.rds.length cd], box _ 38 ws]) (by first | exact .inl rfl | exact .inr rfl) rfl (by repeat (first | exact RVs.nil | (apply RVs.cons; (exact RV.tmp rfl)))) (Mem.le.refl _) ⟨fun _ h => h, fun h => h⟩ ⟨_, _, rfl, rfl, rfl⟩
/-- what a maker's function answers -/
def MkR (w : Wd) (k : Bp) (r : List Rq) (v : Value) (M : Mem) : Prop :=
  (¬ okT k.sups r ∧ v = .tuple #[.agg #[.int .i64 0, .slice none 0 0, .slice none 0 0, .slice none 0 0, .slice none 0 0], .int .i64 290]) ∨ (okT k.sups r ∧ ∃ x, v = .tuple #[x, .int .i64 0] ∧ RBp M x (mkF w k r))
set_option maxHeartbeats 8000000 in
set_option maxRecDepth 20000 in
theorem maker1_fn (M : Mem) (ws : List Value) (w : Wd) (hw : RWd M ws w) (k : Bp) (As Ar Af Ad : Option Addr) (cs cr cf cd : Nat) (h1 : SlOf 6 RSpC M (.slice As k.sups.length cs) k.sups) (_ : SlOf 6 RRqC M (.slice Ar k.reqs.length cr) k.reqs) (_ : Fits2 M (.slice Af k.fits.length cf) k.fits) (_ : SlOf 5 RRd M (.slice Ad k.rds.length cd) k.rds) (b2 b3 : Nat) (Ax : Option Addr) (cx : Nat) (r : List Rq) (hr : SlOf 6 RRqC M (.slice Ax r.length cx) r) :
    Bf.Fn Try.prog 65 [.slice Ax r.length cx, .pointer (some ⟨b2, 0, none⟩), .pointer (some ⟨b3, 0, none⟩)] M [box b3 44 [.int .i64 k.known, .slice As k.sups.length cs, .slice Ar k.reqs.length cr, .slice Af k.fits.length cf, .slice Ad k.rds.length cd], box b2 38 ws] (fun v M' A' => A' = [box b3 44 [.int .i64 k.known, .slice As k.sups.length cs, .slice Ar k.reqs.length cr, .slice Af k.fits.length cf, .slice Ad k.rds.length cd], box b2 38 ws] ∧ MkR w k r v M') := by
  have h11 := hw.len
  refine Fn.intro Try.func65 rfl rfl Try.ntmps65 rfl fun E F => ?_
  (repeat (first | ((with_reducible refine Tr.step rfl ?_); (first | (refine xmQ (z := ?_)) | (refine xaQ (z := ?_)) | ((with_reducible refine Knd.load ?_); (first | (refine xlQ (z := ?_)) | (refine Exec.stab rfl (Stab.loadW rfl (tysOk.get rfl) rfl (by repeat (first | exact Has.here | apply Has.there)) (by assumption)) rfl ?_))) | (refine xfQ (z := ?_)) | ((with_reducible refine Knd.alloc ?_); (refine Exec.alloc (tysOk.get rfl) rfl rfl (fun b => ?_))))) | (with_reducible first | apply Tr.next | apply Tr.seq | apply Tr.region | apply Tr.nil)))
  generalize b = b4
  ((refine Tr.step rfl ?_)); refine Exec.call0 rfl (table_fn M ws w hw As Ax cs cx k.sups r k.known h1 hr) rfl ?_
  rintro _ M1 hm1 (⟨hno, rfl⟩ | ⟨hok, A5, c5, B5, k5, rfl, hf, hrd⟩)
  · (repeat (first | ((with_reducible refine Tr.step rfl ?_); (first | (refine xmQ (z := ?_)) | (refine xaQ (z := ?_)) | (refine xiQ (z := ?_)) | ((with_reducible refine Knd.store ?_); (refine Exec.storeW rfl rfl (tysOk.get rfl) (by repeat (first | exact Upd.here | apply Upd.there)) rfl rfl (by repeat (first | (with_reducible assumption) | exact AllOne.nil | exact AllOne.bytes _ | refine AllOne.cons (by first | rfl | assumption) ?_)) ?_)) | ((with_reducible refine Knd.extract ?_); (refine Exec.stab rfl (Stab.extract rfl rfl) rfl ?_)) | ((with_reducible refine Knd.build ?_); (refine Exec.stab rfl (Stab.build tysOk rfl rfl rfl rfl (by repeat (first | exact BuildP.nil | ((apply BuildP.one); (rfl); (rfl); (first | rfl | assumption); (repeat (first | exact SetL.z | apply SetL.s))) | ((apply BuildP.many); (rfl); (rfl); (rfl); (rfl); (repeat (first | exact PutL.nil | ((apply PutL.cons); (repeat (first | exact SetL.z | apply SetL.s))))))))) rfl ?_)))) | (with_reducible first | apply Tr.next | apply Tr.seq | apply Tr.region | apply Tr.nil | apply Tr.ret | apply Tr.then_ret) | (refine Tr.cond_t rfl (by first | (with_reducible assumption) | (with_reducible rfl) | (with_reducible exact (not_not_intro rfl)) | omega) ?_)))
    exact Tr.doneB (A' := [box b3 44 [.int .i64 k.known, .slice As k.sups.length cs, .slice Ar k.reqs.length cr, .slice Af k.fits.length cf, .slice Ad k.rds.length cd], box b2 38 ws]) [_] (by first | exact .inl rfl | exact .inr rfl) rfl (by repeat (first | exact RVs.nil | (apply RVs.cons; (first | exact RV.tmp rfl | exact RV.cellW (by rfl) (tysOk.get (by rfl)) (by rfl) (by repeat (first | exact Has.here | apply Has.there)) (by first | rfl | assumption))))) hm1 (List.Perm.refl _) ⟨rfl, .inl ⟨hno, rfl⟩⟩
  have l1 := hok.1.1
  have l2 := hok.1.2
  (repeat (first | ((with_reducible refine Tr.step rfl ?_); (first | (refine xmQ (z := ?_)) | (refine xaQ (z := ?_)) | (refine xlQ (z := ?_)) | (refine xfQ (z := ?_)) | (refine xiQ (z := ?_)) | ((with_reducible refine Knd.store ?_); (refine Exec.storeW rfl rfl (tysOk.get rfl) (by repeat (first | exact Upd.here | apply Upd.there)) rfl rfl (by repeat (first | (with_reducible assumption) | exact AllOne.nil | exact AllOne.bytes _ | refine AllOne.cons (by first | rfl | assumption) ?_)) ?_)) | ((with_reducible refine Knd.alloc ?_); (refine Exec.alloc (tysOk.get rfl) rfl rfl (fun b => ?_))) | ((with_reducible refine Knd.extract ?_); (refine Exec.stab rfl (Stab.extract rfl rfl) rfl ?_)) | ((with_reducible refine Knd.build ?_); (refine Exec.stab rfl (Stab.build tysOk rfl rfl rfl rfl (by repeat (first | exact BuildP.nil | ((apply BuildP.one); (rfl); (rfl); (first | rfl | assumption); (repeat (first | exact SetL.z | apply SetL.s))) | ((apply BuildP.many); (rfl); (rfl); (rfl); (rfl); (repeat (first | exact PutL.nil | ((apply PutL.cons); (repeat (first | exact SetL.z | apply SetL.s))))))))) rfl ?_)))) | (with_reducible first | apply Tr.next | apply Tr.seq | apply Tr.region | apply Tr.nil | apply Tr.skip) | (refine Tr.cond_f rfl (by first | (with_reducible assumption) | (with_reducible rfl) | (with_reducible exact (not_not_intro rfl)) | omega) ?_)))
  generalize b = b9
  ((refine Tr.step rfl ?_))
  refine Exec.call (A := []) rfl (cloneSp_fn M1 As cs k.sups (h1.mono RSpC.mono hm1) (by omega)) (List.Perm.refl _) rfl ?_
  rintro _ _ _ _ ⟨⟨B6, k6, rfl, hk6, rfl⟩, rfl⟩
  (repeat (first | ((with_reducible refine Tr.step rfl ?_); (first | (refine xmQ (z := ?_)) | (refine xfQ (z := ?_)) | (refine xSQ (z := ?_)))) | (with_reducible first | apply Tr.next | apply Tr.seq | apply Tr.region | apply Tr.nil)))
  ((refine Tr.step rfl ?_))
  refine Exec.call (A := []) rfl (cloneRq_fn M1 Ax cx r (hr.mono RRqC.mono hm1) (by omega)) (List.Perm.refl _) rfl ?_
  rintro _ _ _ _ ⟨⟨B7, k7, rfl, hk7, rfl⟩, rfl⟩
  (repeat (first | ((with_reducible refine Tr.step rfl ?_); (first | (refine xaQ (z := ?_)) | (refine xwQ (z := ?_)) | (refine xfQ (z := ?_)) | ((with_reducible refine Knd.store ?_); (first | (refine xSQ (z := ?_)) | (refine Exec.storeW rfl rfl (tysOk.get rfl) (by repeat (first | exact Upd.here | apply Upd.there)) rfl rfl (by repeat (first | (with_reducible assumption) | exact AllOne.nil | exact AllOne.bytes _ | refine AllOne.cons (by first | rfl | assumption) ?_)) ?_))))) | (with_reducible first | apply Tr.next | apply Tr.seq | apply Tr.region | apply Tr.nil | apply Tr.ret)))
  refine pbQ (r := ownS 46 6 B7 _ _ _) (k := fun M2 hm2 hok2 => ?_)
  refine pbQ (r := ownS 77 6 B6 _ _ _) (k := fun M3 hm3 hok3 => ?_)
  have g1 : SlOf 6 RSpC M3 (.slice B6 k.sups.length k6) k.sups := SlOf.ofOwn hok3 rfl hk6 (spC_elems _ _)
  have g2 : SlOf 6 RRqC M3 (.slice B7 r.length k7) r := (SlOf.ofOwn hok2 rfl hk7 (rqC_elems _ _)).mono RRqC.mono hm3
  have hm23 := hm2.trans hm3
  exact Tr.doneB (A' := [box b3 44 [.int .i64 k.known, .slice As k.sups.length cs, .slice Ar k.reqs.length cr, .slice Af k.fits.length cf, .slice Ad k.rds.length cd], box b2 38 ws]) [_, _] (by first | exact .inl rfl | exact .inr rfl) rfl (by repeat (first | exact RVs.nil | (apply RVs.cons; (first | exact RV.tmp rfl | exact RV.cellW (by rfl) (tysOk.get (by rfl)) (by rfl) (by repeat (first | exact Has.here | apply Has.there)) (by first | rfl | assumption))))) (hm1.trans hm23) (List.Perm.refl _) ⟨rfl, .inr ⟨hok, _, rfl, B6, k6, B7, k7, A5, c5, B5, k5, rfl, g1, g2, hf.mono RRowB.mono hm23, hrd.mono RRd.mono hm23⟩⟩
set_option maxHeartbeats 16000000 in
set_option maxRecDepth 20000 in
theorem check_fn (M : Mem) (ws : List Value) (w : Wd) (hw : RWd M ws w) (k : Bp) (As Ar Af Ad : Option Addr) (cs cr cf cd : Nat) (h1 : SlOf 6 RSpC M (.slice As k.sups.length cs) k.sups) (h2 : SlOf 6 RRqC M (.slice Ar k.reqs.length cr) k.reqs) (h3 : Fits2 M (.slice Af k.fits.length cf) k.fits) (h4 : SlOf 5 RRd M (.slice Ad k.rds.length cd) k.rds) (_ : cf ≤ 9223372036854775807) :
    FnP Try.prog 25 [.agg ws.toArray, .agg #[.int .i64 k.known, .slice As k.sups.length cs, .slice Ar k.reqs.length cr, .slice Af k.fits.length cf, .slice Ad k.rds.length cd]] M [] (fun _ _ A' => A' = [] ∧ okB w k) (fun ch _ A' => ch = prCh 310 ∧ A' = [] ∧ ¬ okB w k) := by
  have h11 := hw.len
  have hl1 := h1.len_le
  have hl2 := h2.len_le
  refine FnP.intro Try.func25 rfl rfl Try.ntmps25 rfl fun E F => ?_
  (repeat (first | ((with_reducible refine Tr.step rfl ?_); (first | (refine xmQ (z := ?_)) | (refine xaQ (z := ?_)) | (refine xlQ (z := ?_)) | (refine xfQ (z := ?_)) | (refine xnQ (z := ?_)) | ((with_reducible refine Knd.box ?_); (refine Exec.box rfl rfl (fun b => ?_))) | ((with_reducible refine Knd.makeMap ?_); (refine Exec.makeMap rfl (fun b => ?_))))) | (with_reducible first | apply Tr.next | apply Tr.seq | apply Tr.region | apply Tr.nil | apply Tr.block)))
  rename_i b2 b3
  generalize b = mb
  refine Tr.loop (α := Nat × List MapEntry × Nat) (fun y => ⟨62, [(13, .int .i64 (y.1 : Int)), (12, .int .i64 (k.reqs.length : Int)), (11, .slice Ar k.reqs.length cr), (4, .map (some mb)), (2, .pointer (some ⟨b2, 0, none⟩)), (3, .pointer (some ⟨b3, 0, none⟩))], [], M, mapR mb y.2.1 y.2.2 :: box b3 44 [.int .i64 k.known, .slice As k.sups.length cs, .slice Ar k.reqs.length cr, .slice Af k.fits.length cf, .slice Ad k.rds.length cd] :: box b2 38 ws :: ([] ++ F)⟩)
    (fun y => y.1 ≤ k.reqs.length ∧ Nums y.2.1 ((k.reqs.take y.1).map (·.no))) (fun y => k.reqs.length - y.1) (0, [], 0) ⟨Nat.zero_le _, Nums.nil⟩ hsQ (fun y hy => ?_)
  obtain ⟨i, es, cl⟩ := y
  obtain ⟨hi, hn⟩ := hy
  simp only at hi hn
  dsimp only
  by_cases hlt : i < k.reqs.length
  · obtain ⟨x, hx⟩ := get_of_lt hlt
    obtain ⟨hA, ch, hat, rfl⟩ := h2.elem hx
    simp only [rqC] at hat
    have hkeys := hn.1
    (repeat (first | ((with_reducible refine Tr.step rfl ?_); (first | (refine xmQ (z := ?_)) | ((with_reducible refine Knd.load ?_); (first | (refine xlQ (z := ?_)) | (refine Exec.stab rfl (Stab.loadMA rfl (tysOk.get rfl) rfl (by assumption) (by first | rfl | assumption)) rfl ?_))) | (refine xfQ (z := ?_)) | ((with_reducible refine Knd.binOp ?_); (first | (refine xdQ (z := ?_)) | (refine xiQ (z := ?_)))) | ((with_reducible refine Knd.store ?_); (refine Exec.storeW rfl rfl (tysOk.get rfl) (by repeat (first | exact Upd.here | apply Upd.there)) rfl rfl (by repeat (first | (with_reducible assumption) | exact AllOne.nil | exact AllOne.bytes _ | refine AllOne.cons (by first | rfl | assumption) ?_)) ?_)) | ((with_reducible refine Knd.alloc ?_); (refine Exec.alloc (tysOk.get rfl) rfl rfl (fun b => ?_))) | ((with_reducible refine Knd.mapUpdate ?_); (refine Exec.mapUpdate rfl rfl rfl (tysOk.get rfl) rfl (tysOk.get rfl) rfl (by assumption) (by repeat (first | exact Upd.here | apply Upd.there)) ?_)) | (refine xxQ (z := ?_)))) | (with_reducible first | apply Tr.next | apply Tr.seq | apply Tr.region | apply Tr.nil | apply Tr.skip | apply Tr.block | apply Tr.in_normal) | (refine Tr.cond_t rfl (by first | (with_reducible assumption) | (with_reducible rfl) | (with_reducible exact (not_not_intro rfl)) | omega) ?_)))
    refine Tr.again (i + 1, (updE x.no (.bool true) es cl).1, (updE x.no (.bool true) es cl).2) ⟨by simp only; omega, ?_⟩ (by simp only; omega) hsQ
    simp only
    rw [nums_take (·.no) hx]
    exact hn.add _ _ _
  have ei : i = k.reqs.length := by omega
  subst ei
  rw [List.take_length] at hn
  obtain ⟨-, -, n1, n2⟩ := hn
  rw [List.length_map] at n1 n2
  by_cases hb : (es.length : Int) = (k.reqs.length : Int)
  rotate_left
  · (repeat (first | ((with_reducible refine Tr.step rfl ?_); (first | (refine xmQ (z := ?_)) | (refine xlQ (z := ?_)) | (refine xfQ (z := ?_)) | ((with_reducible refine Knd.len ?_); (first | (refine xnQ (z := ?_)) | (refine Exec.stab rfl (Stab.lenMap rfl (tysOk.get rfl) rfl (by repeat (first | exact Has.here | apply Has.there))) rfl ?_))) | (refine xiQ (z := ?_)) | ((with_reducible refine Knd.pick ?_); (refine Exec.stab rfl (Stab.pick_fd rfl (by first | (with_reducible assumption) | (with_reducible rfl) | (with_reducible exact (not_not_intro rfl)) | omega) rfl) rfl ?_)))) | (with_reducible first | apply Tr.next | apply Tr.seq | apply Tr.region | apply Tr.nil) | (refine Tr.guard_n rfl rfl rfl (by first | (with_reducible assumption) | (with_reducible rfl) | (with_reducible exact (not_not_intro rfl)) | omega) rfl rfl ?_) | (with_reducible first | apply Tr.exit | apply Tr.then_exit) | ((with_reducible refine Tr.in_exit ?_ ?_); (exact rfl)) | (refine Tr.cond_f rfl (by first | (with_reducible assumption) | (with_reducible rfl) | (with_reducible exact (not_not_intro rfl)) | omega) ?_)))
    ((refine Tr.step rfl ?_))
    refine Exec.callP rfl (prequire_n M) (List.Perm.refl _) rfl (fun v M' A' hm hR => hR.elim) (fun ch M' A' hm hR => ?_)
    obtain ⟨rfl, rfl, rfl⟩ := hR
    (repeat ((with_reducible refine Tr.then_panic ?_)))
    exact Tr.doneP (A' := []) hm (by repeat (first | exact DropL.refl | apply DropL.skip)) ⟨rfl, rfl, fun h => hb (by have := n2.2 h.1.1; omega)⟩
  have hnr : (k.reqs.map (·.no)).Nodup := n2.1 (by omega)
  (repeat (first | ((with_reducible refine Tr.step rfl ?_); (first | (refine xmQ (z := ?_)) | (refine xlQ (z := ?_)) | (refine xfQ (z := ?_)) | ((with_reducible refine Knd.len ?_); (first | (refine xnQ (z := ?_)) | (refine Exec.stab rfl (Stab.lenMap rfl (tysOk.get rfl) rfl (by repeat (first | exact Has.here | apply Has.there))) rfl ?_))) | (refine xiQ (z := ?_)))) | (with_reducible first | apply Tr.next | apply Tr.seq | apply Tr.region | apply Tr.nil) | ((refine Tr.guard_y rfl rfl rfl (by first | (with_reducible assumption) | (with_reducible rfl) | (with_reducible exact (not_not_intro rfl)) | omega) ?_); (first | (refine xlQ (z := ?_)) | (refine xfQ (z := ?_)))) | (with_reducible first | apply Tr.exit | apply Tr.then_exit) | ((with_reducible refine Tr.in_exit ?_ ?_); (exact rfl)) | (refine Tr.cond_f rfl (by first | (with_reducible assumption) | (with_reducible rfl) | (with_reducible exact (not_not_intro rfl)) | omega) ?_)))
  ((refine Tr.guard_y rfl rfl rfl (by first | (with_reducible assumption) | (with_reducible rfl) | (with_reducible exact (not_not_intro rfl)) | omega) ?_)); refine Exec.call0 rfl (twins_fn M As cs k.sups h1) rfl ?_
  rintro _ _ _ ⟨⟨tw, rfl, htw⟩, rfl⟩
  cases tw with
  | true =>
    (repeat (first | ((with_reducible refine Tr.step rfl ?_); (with_reducible refine Knd.pick ?_); (refine Exec.stab rfl (Stab.pick_td rfl (by first | (with_reducible assumption) | (with_reducible rfl) | (with_reducible exact (not_not_intro rfl)) | omega) rfl) rfl ?_)) | ((refine Tr.guard_y rfl rfl rfl (by first | (with_reducible assumption) | (with_reducible rfl) | (with_reducible exact (not_not_intro rfl)) | omega) ?_); (with_reducible refine Knd.unOp ?_); (refine Exec.stab rfl (Stab.not rfl) rfl ?_))))
    ((refine Tr.step rfl ?_))
    refine Exec.callP rfl (prequire_n M) (List.Perm.refl _) rfl (fun v M' A' hm hR => hR.elim) (fun ch M' A' hm hR => ?_)
    obtain ⟨rfl, rfl, rfl⟩ := hR
    (repeat ((with_reducible refine Tr.then_panic ?_)))
    exact Tr.doneP (A' := []) hm (by repeat (first | exact DropL.refl | apply DropL.skip)) ⟨rfl, rfl, fun h => by have := htw.2 h.1.2; cases this⟩
  | false =>
  have hns := htw.1 rfl
  (repeat (first | ((with_reducible refine Tr.step rfl ?_); (with_reducible refine Knd.pick ?_); (refine Exec.stab rfl (Stab.pick_td rfl (by first | (with_reducible assumption) | (with_reducible rfl) | (with_reducible exact (not_not_intro rfl)) | omega) rfl) rfl ?_)) | ((refine Tr.guard_y rfl rfl rfl (by first | (with_reducible assumption) | (with_reducible rfl) | (with_reducible exact (not_not_intro rfl)) | omega) ?_); (with_reducible refine Knd.unOp ?_); (refine Exec.stab rfl (Stab.not rfl) rfl ?_))))
  ((refine Tr.step rfl ?_)); refine Exec.call0 rfl (prequire_y M) rfl ?_
  rintro _ _ _ rfl
  (repeat (first | (with_reducible first | apply Tr.next | apply Tr.seq | apply Tr.nil)))
  (((apply Tr.draw); (kernel_rfl)); (refine tkQ 0 (hB := by exact fun _ h => h) (s := by exact Stab.loadW rfl (tysOk.get rfl) rfl (by repeat (first | exact Has.here | apply Has.there)) (by assumption)) (h := ?_)); (refine tkQ 1 (s := by exact swQ) (h := ?_)); (refine tkQ 3 (s := by exact sfQ) (h := ?_)); (refine tkQ 4 (s := by exact slQ) (h := ?_)))
  ((refine TrM.start1 _ (by first | exact PA.alloc 9 rfl (tysOk.get rfl) rfl rfl | exact PA.alloc1 9 rfl (tysOk.get rfl) rfl rfl rfl) (by kernel_rfl) ?_); (refine TrM.eff 2 rfl (by kernel_rfl) (by first | exact .inl rfl | exact .inr ⟨_, _, _, rfl, rfl, rfl⟩) (by repeat (first | exact PendOk.nil | refine PendOk.cons rfl (by repeat (first | exact SubFr.nil | refine SubFr.cons rfl ?_)) ?_)) (by exact fun _ h => h) (by repeat (first | apply AppF.cons | exact AppF.nil | exact AppF.app)) (by repeat (first | apply AppF.cons | exact AppF.nil | exact AppF.app)) (fun Y X => ?_)))
  refine Exec.call (A := []) rfl (maker_fn M ws k As Ar Af Ad cs cr cf cd) (List.Perm.refl _) rfl ?_
  rintro _ _ _ _ ⟨b5, b6, rfl, rfl, rfl⟩
  (refine ⟨_, _, (by repeat (first | apply App.cons | exact App.nil | exact App.app)), (by repeat (first | apply App.cons | exact App.nil | exact App.app)), rfl, (by first | exact Mem.le.refl _ | assumption), (by exact (Sub.mem (by repeat (first | exact Sub.refl | apply Sub.cons)))), ?_⟩)
  ((refine TrM.eff 5 rfl (by kernel_rfl) (by first | exact .inl rfl | exact .inr ⟨_, _, _, rfl, rfl, rfl⟩) (by repeat (first | exact PendOk.nil | refine PendOk.cons rfl (by repeat (first | exact SubFr.nil | refine SubFr.cons rfl ?_)) ?_)) (by exact (Sub.mem (by repeat (first | exact Sub.refl | apply Sub.cons)))) (by repeat (first | apply AppF.cons | exact AppF.nil | exact AppF.app)) (by repeat (first | apply AppF.cons | exact AppF.nil | exact AppF.app)) (fun Y X => ?_)))
  refine Exec.callv (first := []) (cap := [.pointer (some ⟨b5, 0, none⟩), .pointer (some ⟨b6, 0, none⟩)]) (A := [box b6 44 [.int .i64 k.known, .slice As k.sups.length cs, .slice Ar k.reqs.length cr, .slice Af k.fits.length cf, .slice Ad k.rds.length cd], box b5 38 ws]) rfl rfl (maker1_fn M ws w hw k As Ar Af Ad cs cr cf cd h1 h2 h3 h4 b5 b6 Ar cr k.reqs h2) (List.Perm.refl _) rfl ?_
  rintro v M1 _ hm1 ⟨rfl, hmk⟩
  (refine ⟨_, _, (by repeat (first | apply App.cons | exact App.nil | exact App.app)), (by repeat (first | apply App.cons | exact App.nil | exact App.app)), rfl, (by first | exact Mem.le.refl _ | assumption), (by exact (Sub.mem (by repeat (first | exact Sub.refl | apply Sub.cons)))), ?_⟩)
  rcases hmk with ⟨hno, rfl⟩ | ⟨hok, x, rfl, As', cs', Ar', cr', Af', cf', Ad', cd', rfl, g1, g2, g3, g4⟩
  · ((refine TrM.take 6 (by kernel_rfl) rfl (by kernel_rfl) (by first | exact fun _ _ _ h => h | exact fun _ _ _ h => nomatch h.1) (by exact (Sub.mem (by repeat (first | exact Sub.refl | apply Sub.cons)))) rfl (by first | exact Stab.move rfl) rfl rfl ?_); (refine TrM.take 7 (by kernel_rfl) rfl (by kernel_rfl) (by first | exact fun _ _ _ h => h | exact fun _ _ _ h => nomatch h.1) (by exact (Sub.mem (by repeat (first | exact Sub.refl | apply Sub.cons)))) rfl (by first | exact Stab.extract rfl rfl) rfl rfl ?_); (refine TrM.take 8 (by kernel_rfl) rfl (by kernel_rfl) (by first | exact fun _ _ _ h => h | exact fun _ _ _ h => nomatch h.1) (by exact (Sub.mem (by repeat (first | exact Sub.refl | apply Sub.cons)))) rfl (by first | exact Stab.extract rfl rfl) rfl rfl ?_); (refine TrM.settle (by kernel_rfl) (by repeat (first | exact PendOk.nil | refine PendOk.cons rfl (by repeat (first | exact SubFr.nil | refine SubFr.cons rfl ?_)) ?_)) (by exact (Sub.mem (by repeat (first | exact Sub.refl | apply Sub.cons)))) (fun b => ?_)); dsimp only; (refine TrM.fin ?_))
    ((refine TrA.eff 10 rfl (by kernel_rfl) (by first | exact .inl rfl | exact .inr ⟨_, _, _, rfl, rfl, rfl⟩) ?_); (((refine Knd.store ?_); ((refine Exec.storeW rfl rfl (tysOk.get rfl) (by repeat (first | exact Upd.here | apply Upd.there)) rfl rfl (by repeat (first | (with_reducible assumption) | exact AllOne.nil | exact AllOne.bytes _ | refine AllOne.cons (by first | rfl | assumption) ?_)) ?_)))); (refine ⟨(by first | exact Mem.le.refl _ | assumption), (by exact (Sub.mem (by repeat (first | exact Sub.refl | apply Sub.cons)))), ?_⟩); (refine tkQ 11 (s := by exact Stab.assign rfl) (h := ?_)); (refine TrA.done (by kernel_rfl) ?_))
    (repeat (first | ((with_reducible refine Tr.step rfl ?_); (first | (refine xmQ (z := ?_)) | (refine xiQ (z := ?_)))) | (with_reducible first | apply Tr.next | apply Tr.seq | apply Tr.region)))
    ((refine Tr.step rfl ?_))
    refine Exec.callP rfl (prequire_n _) (List.Perm.refl _) rfl (fun v M' A' hm hR => hR.elim) (fun ch M' A' hm hR => ?_)
    obtain ⟨rfl, rfl, rfl⟩ := hR
    (repeat ((with_reducible refine Tr.then_panic ?_)))
    exact Tr.doneP (A' := []) (hm1.trans hm) (by repeat (first | exact DropL.refl | apply DropL.skip)) ⟨rfl, rfl, fun h => hno h.2.1⟩
  ((refine TrM.take 6 (by kernel_rfl) rfl (by kernel_rfl) (by first | exact fun _ _ _ h => h | exact fun _ _ _ h => nomatch h.1) (by exact (Sub.mem (by repeat (first | exact Sub.refl | apply Sub.cons)))) rfl (by first | exact Stab.move rfl) rfl rfl ?_); (refine TrM.take 7 (by kernel_rfl) rfl (by kernel_rfl) (by first | exact fun _ _ _ h => h | exact fun _ _ _ h => nomatch h.1) (by exact (Sub.mem (by repeat (first | exact Sub.refl | apply Sub.cons)))) rfl (by first | exact Stab.extract rfl rfl) rfl rfl ?_); (refine TrM.take 8 (by kernel_rfl) rfl (by kernel_rfl) (by first | exact fun _ _ _ h => h | exact fun _ _ _ h => nomatch h.1) (by exact (Sub.mem (by repeat (first | exact Sub.refl | apply Sub.cons)))) rfl (by first | exact Stab.extract rfl rfl) rfl rfl ?_); (refine TrM.settle (by kernel_rfl) (by repeat (first | exact PendOk.nil | refine PendOk.cons rfl (by repeat (first | exact SubFr.nil | refine SubFr.cons rfl ?_)) ?_)) (by exact (Sub.mem (by repeat (first | exact Sub.refl | apply Sub.cons)))) (fun b => ?_)); dsimp only; (refine TrM.fin ?_))
  ((refine TrA.eff 10 rfl (by kernel_rfl) (by first | exact .inl rfl | exact .inr ⟨_, _, _, rfl, rfl, rfl⟩) ?_); (((refine Knd.store ?_); ((refine Exec.storeW rfl rfl (tysOk.get rfl) (by repeat (first | exact Upd.here | apply Upd.there)) rfl rfl (by repeat (first | (with_reducible assumption) | exact AllOne.nil | exact AllOne.bytes _ | refine AllOne.cons (by first | rfl | assumption) ?_)) ?_)))); (refine ⟨(by first | exact Mem.le.refl _ | assumption), (by exact (Sub.mem (by repeat (first | exact Sub.refl | apply Sub.cons)))), ?_⟩); (refine tkQ 11 (s := by exact Stab.assign rfl) (h := ?_)); (refine TrA.done (by kernel_rfl) ?_))
  (repeat (first | ((with_reducible refine Tr.step rfl ?_); (first | (refine xmQ (z := ?_)) | (refine xiQ (z := ?_)))) | (with_reducible first | apply Tr.next | apply Tr.seq | apply Tr.region)))
  ((refine Tr.step rfl ?_)); refine Exec.call0 rfl (prequire_y M1) rfl ?_
  rintro _ _ _ rfl
  (repeat (first | ((with_reducible refine Tr.step rfl ?_); (first | (refine xlQ (z := ?_)) | (refine xfQ (z := ?_)))) | (with_reducible first | apply Tr.next | apply Tr.seq | apply Tr.region | apply Tr.nil)))
  ((refine Tr.step rfl ?_)); refine Exec.call0 rfl (sameRows_fn M1 (mkF w k k.reqs).fits k.fits Af' Af cf' cf g3 (h3.mono RRowB.mono hm1)) rfl ?_
  rintro _ _ _ ⟨⟨q1, rfl, hq1⟩, rfl⟩
  cases q1 with
  | false =>
    (repeat (first | ((with_reducible refine Tr.step rfl ?_); (first | (refine xmQ (z := ?_)) | ((with_reducible refine Knd.pick ?_); (refine Exec.stab rfl (Stab.pick_f rfl (by first | (with_reducible rfl) | (with_reducible assumption) | (with_reducible exact Bool.not_true) | (with_reducible exact Bool.not_false)) rfl) rfl ?_)))) | (refine Tr.guard_s1 rfl rfl rfl (by first | (with_reducible rfl) | (with_reducible assumption) | (with_reducible exact Bool.not_true) | (with_reducible exact Bool.not_false)) rfl rfl ?_)))
    ((refine Tr.step rfl ?_))
    refine Exec.callP rfl (prequire_n _) (List.Perm.refl _) rfl (fun v M' A' hm hR => hR.elim) (fun ch M' A' hm hR => ?_)
    obtain ⟨rfl, rfl, rfl⟩ := hR
    (repeat ((with_reducible refine Tr.then_panic ?_)))
    exact Tr.doneP (A' := []) (hm1.trans hm) (by repeat (first | exact DropL.refl | apply DropL.skip)) ⟨rfl, rfl, fun h => by have := hq1.2 h.2.2.1.1; cases this⟩
  | true =>
  (repeat (first | ((with_reducible refine Tr.step rfl ?_); (with_reducible refine Knd.move ?_); (refine xmQ (z := ?_))) | ((refine Tr.guard_l rfl rfl rfl (by first | (with_reducible rfl) | (with_reducible assumption) | (with_reducible exact Bool.not_true) | (with_reducible exact Bool.not_false)) ?_); (first | (refine xlQ (z := ?_)) | (refine xfQ (z := ?_))))))
  ((refine Tr.guard_l rfl rfl rfl (by first | (with_reducible rfl) | (with_reducible assumption) | (with_reducible exact Bool.not_true) | (with_reducible exact Bool.not_false)) ?_)); refine Exec.call0 rfl (equalRd_fn M1 (mkF w k k.reqs).rds k.rds Ad' Ad cd' cd g4 (h4.mono RRd.mono hm1)) rfl ?_
  rintro _ _ _ ⟨⟨q2, rfl, hq2⟩, rfl⟩
  cases q2 with
  | false =>
    (repeat (((with_reducible refine Tr.step rfl ?_); (with_reducible refine Knd.pick ?_); (refine Exec.stab rfl (Stab.pick_t rfl (by first | (with_reducible rfl) | (with_reducible assumption) | (with_reducible exact Bool.not_true) | (with_reducible exact Bool.not_false)) rfl) rfl ?_))))
    ((refine Tr.step rfl ?_))
    refine Exec.callP rfl (prequire_n _) (List.Perm.refl _) rfl (fun v M' A' hm hR => hR.elim) (fun ch M' A' hm hR => ?_)
    obtain ⟨rfl, rfl, rfl⟩ := hR
    (repeat ((with_reducible refine Tr.then_panic ?_)))
    exact Tr.doneP (A' := []) (hm1.trans hm) (by repeat (first | exact DropL.refl | apply DropL.skip)) ⟨rfl, rfl, fun h => by have := hq2.2 h.2.2.1.2; cases this⟩
  | true =>
  (repeat (((with_reducible refine Tr.step rfl ?_); (with_reducible refine Knd.pick ?_); (refine Exec.stab rfl (Stab.pick_t rfl (by first | (with_reducible rfl) | (with_reducible assumption) | (with_reducible exact Bool.not_true) | (with_reducible exact Bool.not_false)) rfl) rfl ?_))))
  ((refine Tr.step rfl ?_)); refine Exec.call0 rfl (prequire_y M1) rfl ?_
  rintro _ _ _ rfl
  (repeat (first | ((with_reducible refine Tr.step rfl ?_); (with_reducible refine Knd.load ?_); (refine xwQ (z := ?_))) | (with_reducible first | apply Tr.next | apply Tr.region | apply Tr.nil)))
  ((refine Tr.step rfl ?_)); refine Exec.call0 rfl (bpossible_fn M1 (mkF w k k.reqs) As' Ar' Af' Ad' cs' cr' cf' cd' g1 g2 g3 g4 (okT_vld hok)) rfl ?_
  rintro _ _ _ ⟨⟨q3, rfl, hq3⟩, rfl⟩
  have hpb : pbB (mkF w k k.reqs) = pbB k := by
    unfold pbB
    rw [hq1.1 rfl]
    rfl
  rw [hpb] at hq3
  cases q3 with
  | false =>
    (skip)
    ((refine Tr.step rfl ?_))
    refine Exec.callP rfl (prequire_n _) (List.Perm.refl _) rfl (fun v M' A' hm hR => hR.elim) (fun ch M' A' hm hR => ?_)
    obtain ⟨rfl, rfl, rfl⟩ := hR
    (skip)
    exact Tr.doneP (A' := []) (hm1.trans hm) (by repeat (first | exact DropL.refl | apply DropL.skip)) ⟨rfl, rfl, fun h => by have := hq3.2 h.2.2.2; cases this⟩
  | true =>
  (skip)
  ((refine Tr.step rfl ?_)); refine Exec.call0 rfl (prequire_y M1) rfl ?_
  rintro _ _ _ rfl
  (repeat ((with_reducible refine Tr.nil ?_)))
  refine Tr.ofPost ?_
  (refine Tr.done (by first | exact .inl rfl | exact .inr rfl) rfl (by repeat (exact RVs.nil)) (by first | exact Mem.le.refl _ | assumption) (by exact ⟨[_, _, _, _, _, _], rfl⟩) ⟨rfl, ?_⟩)
  exact ⟨⟨hnr, hns⟩, hok, ⟨hq1.1 rfl, hq2.1 rfl⟩, hq3.1 rfl⟩
end Go.Proofs.Ytlifjajcmnkhfaa

/-
  Promises: attempt and ask.
  Conditions: none.
-/
namespace Go.Proofs.Ytlifjajcmnkhfaa
open Go Bf
attribute [local irreducible] Tr Exec Stab HasTy Go.Addr.add IntKind.wrap
def prDone (e : Int) : List PanicEntry := [{ v := .iface 49 (.int .i64 e), recovered := true }]
set_option maxHeartbeats 1000000 in
theorem patt_panic (M : Mem) (b2 : Nat) (e0 : Value) (e : Int) :
    CD Try.prog 57 [.pointer (some ⟨b2, 0, none⟩)] (.panicking (prCh e)) M [box b2 49 [e0]]
      (fun u' M' A' => u' = .panicking (prDone e) ∧ M = M' ∧ A' = [box b2 49 [.int .i64 e]]) := by
  refine CD.intro1 Try.func57 rfl rfl Try.ntmps57 rfl rfl (v := .iface 49 (.int .i64 e)) (.inl ⟨[], rfl, rfl⟩) fun E F => ?_
  (repeat (first | ((with_reducible refine Tr.step rfl ?_); (first | (refine xmQ (z := ?_)) | (refine xaQ (z := ?_)) | ((with_reducible refine Knd.binOp ?_); (refine Exec.stab rfl (Stab.ifaceeq rfl (tysOk.get rfl) rfl) rfl ?_)) | (refine xSQ (z := ?_)) | ((with_reducible refine Knd.typeAssert ?_); (refine Exec.stab rfl (Stab.assertY rfl (tysOk.get rfl) rfl) rfl ?_)) | ((with_reducible refine Knd.extract ?_); (refine Exec.stab rfl (Stab.extract rfl rfl) rfl ?_)))) | (with_reducible first | apply Tr.next | apply Tr.seq | apply Tr.region | apply Tr.nil | apply Tr.block | apply Tr.in_normal) | (refine Tr.cond_bt rfl (by first | (with_reducible rfl) | (with_reducible assumption) | (with_reducible exact Bool.not_true) | (with_reducible exact Bool.not_false)) ?_) | (refine Tr.cond_bf rfl (by first | (with_reducible rfl) | (with_reducible assumption) | (with_reducible exact Bool.not_true) | (with_reducible exact Bool.not_false)) ?_)))
  refine Tr.doneC (by first | exact .inl rfl | exact .inr rfl) rfl (by repeat (exact RVs.nil)) (Mem.le.refl _) DropL.refl ⟨rfl, rfl, rfl⟩
set_option maxHeartbeats 1000000 in
theorem patt_idle (M : Mem) (b2 : Nat) (A : List Res) :
    CD Try.prog 57 [.pointer (some ⟨b2, 0, none⟩)] .returning M A
      (fun u' M' A' => u' = .returning ∧ M = M' ∧ A' = A) := by
  refine CD.intro1 Try.func57 rfl rfl Try.ntmps57 rfl rfl (v := .nilIface) (.inr ⟨rfl, rfl, rfl⟩) fun E F => ?_
  (repeat (first | ((with_reducible refine Tr.step rfl ?_); (first | (refine xaQ (z := ?_)) | ((with_reducible refine Knd.binOp ?_); (refine Exec.stab rfl (Stab.nileq rfl (tysOk.get rfl) rfl) rfl ?_)))) | (with_reducible first | apply Tr.next | apply Tr.seq | apply Tr.region | apply Tr.nil | apply Tr.block | apply Tr.in_normal) | (refine Tr.cond_bt rfl (by first | (with_reducible rfl) | (with_reducible assumption) | (with_reducible exact Bool.not_true) | (with_reducible exact Bool.not_false)) ?_)))
  refine Tr.doneC (by first | exact .inl rfl | exact .inr rfl) rfl (by repeat (exact RVs.nil)) (Mem.le.refl _) DropL.refl ⟨rfl, rfl, rfl⟩
set_option maxHeartbeats 2000000 in
theorem pattempt_fn (M : Mem) (g : FuncId) (cap : List Value) (A : List Res) (R : Value → Mem → List Res → Prop) (RP : Int → Mem → List Res → Prop) (hg : FnP Try.prog g cap M A R (fun ch M' A' => ∃ e, ch = prCh e ∧ RP e M' A')) :
    Bf.Fn Try.prog 23 [.func (.func g) #[] cap.toArray] M A (fun r M' A' => (r = .int .i64 0 ∧ ∃ v, R v M' A') ∨ ∃ e, r = .int .i64 e ∧ RP e M' A') := by
  refine Fn.introD Try.func23 rfl rfl Try.ntmps23 rfl fun E F => ?_
  (repeat (first | ((with_reducible refine Tr.step rfl ?_); (first | ((with_reducible refine Knd.makeFunc ?_); (refine Exec.stab rfl (Stab.makeFunc rfl rfl) rfl ?_)) | ((with_reducible refine Knd.alloc ?_); (refine Exec.alloc1 (tysOk.get rfl) rfl rfl rfl (fun b => ?_))))) | (with_reducible first | apply Tr.next | apply Tr.seq | apply Tr.region | apply Tr.nil)))
  refine Tr.step rfl ?_
  refine Exec.defer (first := []) (vs := []) rfl rfl ?_
  (repeat (first | ((with_reducible refine Tr.step rfl ?_); (with_reducible refine Knd.move ?_); (refine xmQ (z := ?_))) | (with_reducible first | apply Tr.next | apply Tr.seq | apply Tr.region | apply Tr.nil)))
  ((refine Tr.step rfl ?_))
  refine Exec.callPv (first := []) (cap := cap) (vs := []) (A := A) (F := box b 49 [.int .i64 0] :: F) rfl rfl (by simpa using hg) List.perm_middle rfl (fun v M' A' hm hR => ?_) (fun ch M' A' hm hR => ?_)
  rotate_left
  · obtain ⟨e, rfl, hR⟩ := hR
    (repeat ((with_reducible refine Tr.then_panic ?_)))
    refine Tr.panicD (vs0 := []) (cap := [.pointer (some ⟨b, 0, none⟩)]) (A := [box b 49 [.int .i64 0]]) (F1 := A' ++ F) (patt_panic M' b _ e) (show (box b 49 [.int .i64 0] :: (A' ++ F)).Perm (A' ++ box b 49 [.int .i64 0] :: F) from List.perm_middle.symm) rfl ?_
    rintro u' M'' A'' hm' ⟨rfl, rfl, rfl⟩
    exact ⟨rfl, _, (by repeat (first | exact RVs.nil | (apply RVs.cons; (exact RV.cell (by rfl) (tysOk.get (by rfl)) (by rfl) (by repeat (first | exact Has.here | apply Has.there)))))), hm, [box b 49 [.int .i64 e]], A', List.Perm.refl _, .inr ⟨e, rfl, hR⟩⟩
  refine Tr.reorder List.perm_middle.symm ?_
  (repeat (first | ((with_reducible refine Tr.step rfl ?_); (with_reducible refine Knd.store ?_); (refine xSQ (z := ?_))) | (with_reducible first | apply Tr.next | apply Tr.seq | apply Tr.region | apply Tr.nil | apply Tr.ret)))
  refine Tr.doneD (vs0 := []) (cap := [.pointer (some ⟨b, 0, none⟩)]) (A := []) (by first | exact .inl rfl | exact .inr rfl) (patt_idle M' b []) (List.Perm.refl _) rfl ?_
  rintro u' M'' A'' hm' ⟨rfl, rfl, rfl⟩
  exact ⟨rfl, _, (by repeat (first | exact RVs.nil | (apply RVs.cons; (exact RV.cell (by rfl) (tysOk.get (by rfl)) (by rfl) (by repeat (first | exact Has.here | apply Has.there)))))), hm, [box b 49 [.int .i64 0]], A', List.Perm.refl _, .inl ⟨rfl, v, hR⟩⟩
end Go.Proofs.Ytlifjajcmnkhfaa

/-
  Promises: ask.
  Conditions: none.
-/
namespace Go.Proofs.Ytlifjajcmnkhfaa
open Go Bf
attribute [local irreducible] Tr Exec Stab HasTy Go.Addr.add IntKind.wrap
/-- the requests that an answer names -/
noncomputable def cutB (w : Wd) (k : Bp) (r : Rq) : List Int := memF (cutFin (fitsT w k.known k.sups (k.reqs ++ [r])) (amS k.sups) (amR (k.reqs ++ [r]))) (amR (k.reqs ++ [r])).length
noncomputable def confF (w : Wd) (k : Bp) (r : Rq) : List Int := (cutB w k r).map fun j => ((k.reqs ++ [r]).map (·.no)).getD j.toNat 0
/-- what ask answers -/
def AskR (w : Wd) (k : Bp) (r : Rq) (x a : Value) (M : Mem) : Prop :=
  ∃ D cd, SlOf 5 RRd M (.slice D (readsF w k.sups [r]).length cd) (readsF w k.sups [r]) ∧
    ((Feas (pbW w k.known k.sups (k.reqs ++ [r])) ∧ RBp M x (more w k r) ∧ ∃ al A c, LexMax (pbW w k.known k.sups (k.reqs ++ [r])) al ∧ a = .agg #[.bool true, .slice A (allocOf al (amR (k.reqs ++ [r])).length (amS k.sups).length).length c, .slice none 0 0, .slice D (readsF w k.sups [r]).length cd] ∧ Ints2 M (.slice A (allocOf al (amR (k.reqs ++ [r])).length (amS k.sups).length).length c) (allocOf al (amR (k.reqs ++ [r])).length (amS k.sups).length)) ∨
     (¬ Feas (pbW w k.known k.sups (k.reqs ++ [r])) ∧ RBp M x k ∧ ∃ B c, a = .agg #[.bool false, .slice none 0 0, .slice B (confF w k r).length c, .slice D (readsF w k.sups [r]).length cd] ∧ Ints M (.slice B (confF w k r).length c) (confF w k r)))
theorem ask1_fn (M : Mem) (b5 : Nat) (r y : Rq) (hb : (box b5 46 [.int .i64 r.no, .int .i64 r.item, .int .i64 r.cust, .int .i64 r.due, .int .i64 r.shelf, .int .i64 r.amount]).ok M) : Fn0 Try.prog 62 ([.agg #[.int .i64 y.no, .int .i64 y.item, .int .i64 y.cust, .int .i64 y.due, .int .i64 y.shelf, .int .i64 y.amount]] ++ [.pointer (some ⟨b5, 0, none⟩)]) M (fun v M' => v = .bool (decide (y.no = r.no)) ∧ M = M') := by
  have hrow := Row.of_box (n := 1) (sz := 6) hb (by simp) (by intro u hu; simp at hu; rcases hu with rfl | rfl | rfl | rfl | rfl | rfl <;> rfl)
  have hat2 := (hrow.pos (by decide)).2
  refine Fn.intro Try.func62 rfl rfl Try.ntmps62 rfl fun E F => ?_
  simp only [List.cons_append, List.nil_append]
  (repeat (first | ((with_reducible refine Tr.step rfl ?_); (first | (refine xaQ (z := ?_)) | ((with_reducible refine Knd.load ?_); (first | (refine xlQ (z := ?_)) | (refine xMQ (z := ?_)))) | (refine xfQ (z := ?_)) | (refine xiQ (z := ?_)) | ((with_reducible refine Knd.box ?_); (refine Exec.box rfl rfl (fun b => ?_))))) | (with_reducible first | apply Tr.next | apply Tr.seq | apply Tr.region | apply Tr.nil | apply Tr.ret)))
  (refine dnQ (hL := by exact ⟨[_], rfl⟩) (k := ⟨rfl, ?_⟩))
  exact ⟨rfl, rfl⟩
theorem askc_lend (M : Mem) (b5 : Nat) (r : Rq) (A : Option Addr) (c : Nat) (l : List Rq) (hl : SlOf 6 RRqC M (.slice A l.length c) l) :
    Bf.Fn Try.prog 42 [.slice A l.length c, .func (.func 62) #[] #[.pointer (some ⟨b5, 0, none⟩)]] M [box b5 46 [.int .i64 r.no, .int .i64 r.item, .int .i64 r.cust, .int .i64 r.due, .int .i64 r.shelf, .int .i64 r.amount]] (fun v M' A' => A' = [box b5 46 [.int .i64 r.no, .int .i64 r.item, .int .i64 r.cust, .int .i64 r.due, .int .i64 r.shelf, .int .i64 r.amount]] ∧ M = M' ∧ v = .bool (l.any fun y => decide (y.no = r.no))) :=
  Fn.lend (rs := [box b5 46 [.int .i64 r.no, .int .i64 r.item, .int .i64 r.cust, .int .i64 r.due, .int .i64 r.shelf, .int .i64 r.amount]]) (R := fun v => v = .bool (l.any fun y => decide (y.no = r.no))) (clone_ok _ _ _ _ _ _ (containsR_fn M none 0 [] (SlOf.nil _ _ _) 0 [] (fun _ => false) (by simp))) (fun M' hm hok =>
    containsR_fn M' A c l (hl.mono RRqC.mono hm) 62 [.pointer (some ⟨b5, 0, none⟩)] (fun y => decide (y.no = r.no)) (fun y _ => ask1_fn M' b5 r y (hok _ (by simp))))
set_option maxHeartbeats 16000000 in
set_option maxRecDepth 20000 in
theorem ask_fn (M : Mem) (ws : List Value) (w : Wd) (hw : RWd M ws w) (k : Bp) (As Ar Af Ad : Option Addr) (cs cr cf cd : Nat) (h1 : SlOf 6 RSpC M (.slice As k.sups.length cs) k.sups) (h2 : SlOf 6 RRqC M (.slice Ar k.reqs.length cr) k.reqs) (h3 : Fits2 M (.slice Af k.fits.length cf) k.fits) (h4 : SlOf 5 RRd M (.slice Ad k.rds.length cd) k.rds) (hv : okB w k) (r : Rq) :
    FnP Try.prog 26 [.agg ws.toArray, .agg #[.int .i64 k.known, .slice As k.sups.length cs, .slice Ar k.reqs.length cr, .slice Af k.fits.length cf, .slice Ad k.rds.length cd], .agg #[.int .i64 r.no, .int .i64 r.item, .int .i64 r.cust, .int .i64 r.due, .int .i64 r.shelf, .int .i64 r.amount]] M [] (fun v M' A' => A' = [] ∧ askE w k r = 0 ∧ ∃ x a, v = .tuple #[x, a] ∧ AskR w k r x a M') (fun ch _ A' => ∃ e, ch = prCh e ∧ A' = [] ∧ askE w k r = e ∧ e ≠ 0) := by
  have h11 := hw.len
  have hl1 := h1.len_le
  have hl2 := h2.len_le
  have l64 := hv.2.1.1
  refine FnP.intro Try.func26 rfl rfl Try.ntmps26 rfl fun E F => ?_
  (repeat (first | ((with_reducible refine Tr.step rfl ?_); (first | (refine xlQ (z := ?_)) | (refine xfQ (z := ?_)) | ((with_reducible refine Knd.makeFunc ?_); (refine Exec.stab rfl (Stab.makeFunc rfl rfl) rfl ?_)) | ((with_reducible refine Knd.box ?_); (refine Exec.box rfl rfl (fun b => ?_))) | ((with_reducible refine Knd.alloc ?_); (refine Exec.alloc (tysOk.get rfl) rfl rfl (fun b => ?_))))) | (with_reducible first | apply Tr.next | apply Tr.seq | apply Tr.region | apply Tr.nil)))
  rename_i b3 b4 b5 b6
  generalize b = b7
  ((refine Tr.step rfl ?_))
  refine Exec.call (A := [box b5 46 [.int .i64 r.no, .int .i64 r.item, .int .i64 r.cust, .int .i64 r.due, .int .i64 r.shelf, .int .i64 r.amount]]) rfl (askc_lend M b5 r Ar cr k.reqs h2) (take1 (by repeat (first | exact Del.here | apply Del.there))) rfl ?_
  rintro _ _ _ _ ⟨rfl, rfl, rfl⟩
  by_cases hno : r.no ∈ k.reqs.map (·.no)
  · have e : (k.reqs.any fun y => decide (y.no = r.no)) = true := by
      rw [List.any_eq_true]
      obtain ⟨y, hy, hyn⟩ := List.mem_map.1 hno
      exact ⟨y, hy, by simpa using hyn⟩
    rw [e]
    (repeat (((with_reducible refine Tr.step rfl ?_); (with_reducible refine Knd.unOp ?_); (refine Exec.stab rfl (Stab.not rfl) rfl ?_))))
    ((refine Tr.step rfl ?_))
    refine Exec.callP rfl (prequire_n _) (List.Perm.refl _) rfl (fun v M' A' hm hR => hR.elim) (fun ch M' A' hm hR => ?_)
    obtain ⟨rfl, rfl, rfl⟩ := hR
    (repeat ((with_reducible refine Tr.then_panic ?_)))
    exact Tr.doneP (A' := []) hm (by repeat (first | exact DropL.refl | apply DropL.skip)) ⟨310, rfl, rfl, by rw [askE, if_neg (fun h => h hv), if_pos hno], by decide⟩
  have e : (k.reqs.any fun y => decide (y.no = r.no)) = false := by
    rw [List.any_eq_false]
    intro y hy
    simp only [decide_eq_true_eq]
    exact fun h => hno (List.mem_map.2 ⟨y, hy, h⟩)
  rw [e]
  (repeat (((with_reducible refine Tr.step rfl ?_); (with_reducible refine Knd.unOp ?_); (refine Exec.stab rfl (Stab.not rfl) rfl ?_))))
  ((refine Tr.step rfl ?_)); refine Exec.call0 rfl (prequire_y M) rfl ?_
  rintro _ _ _ rfl
  (repeat (first | ((with_reducible refine Tr.step rfl ?_); (with_reducible refine Knd.load ?_); (first | (refine xwQ (z := ?_)) | (refine Exec.stab rfl (Stab.loadW rfl (tysOk.get rfl) rfl (by repeat (first | exact Has.here | apply Has.there)) (by assumption)) rfl ?_))) | (with_reducible first | apply Tr.next | apply Tr.seq | apply Tr.region | apply Tr.nil)))
  ((refine Tr.step rfl ?_))
  refine Exec.call (A := []) rfl (maker_fn M ws k As Ar Af Ad cs cr cf cd) (List.Perm.refl _) rfl ?_
  rintro _ _ _ _ ⟨b8, b9, rfl, rfl, rfl⟩
  (repeat (first | ((with_reducible refine Tr.step rfl ?_); (with_reducible refine Knd.assign ?_); (refine xaQ (z := ?_))) | (with_reducible first | apply Tr.next | apply Tr.seq | apply Tr.nil)))
  (((apply Tr.draw (box b5 46 [.int .i64 r.no, .int .i64 r.item, .int .i64 r.cust, .int .i64 r.due, .int .i64 r.shelf, .int .i64 r.amount] :: box b7 60 [.bool false, .slice none 0 0, .slice none 0 0, .slice none 0 0] :: box b6 44 [.int .i64 0, .slice none 0 0, .slice none 0 0, .slice none 0 0, .slice none 0 0] :: box b4 44 [.int .i64 k.known, .slice As k.sups.length cs, .slice Ar k.reqs.length cr, .slice Af k.fits.length cf, .slice Ad k.rds.length cd] :: box b3 38 ws :: ([] ++ F))); (kernel_rfl)); (refine tkQ 0 (s := by exact Stab.move rfl) (h := ?_)); (refine tkQ 1 (s := by exact sfQ) (h := ?_)); (refine tkQ 4 (s := by exact swQ) (h := ?_)); (refine tkQ 2 (s := by exact slQ) (h := ?_)))
  ((refine TrM.start2 _ (PA.build1 5 [(33, .agg #[.int .i64 r.no, .int .i64 r.item, .int .i64 r.cust, .int .i64 r.due, .int .i64 r.shelf, .int .i64 r.amount])] rfl (by first | exact .inl rfl | exact .inr ⟨_, _, _, rfl, rfl, rfl⟩) rfl (tysOk.get rfl) rfl (tysOk.get rfl) rfl rfl rfl rfl rfl (by first | rfl | assumption) rfl) (by first | exact PA.alloc 11 rfl (tysOk.get rfl) rfl rfl | exact PA.alloc1 11 rfl (tysOk.get rfl) rfl rfl rfl) (by kernel_rfl) (by kernel_rfl) (by kernel_rfl) ?_); (refine TrM.eff 3 rfl (by kernel_rfl) (by first | exact .inl rfl | exact .inr ⟨_, _, _, rfl, rfl, rfl⟩) (by repeat (first | exact PendOk.nil | refine PendOk.cons rfl (by repeat (first | exact SubFr.nil | refine SubFr.cons rfl ?_)) ?_)) (by exact (Sub.mem (by repeat (first | exact Sub.refl | apply Sub.cons)))) (by repeat (first | apply AppF.cons | exact AppF.nil | exact AppF.app)) (by repeat (first | apply AppF.cons | exact AppF.nil | exact AppF.app)) (fun Y X => ?_)))
  refine Exec.call (A := []) rfl (cloneRq_fn M Ar cr k.reqs h2 (by omega)) (List.Perm.refl _) rfl ?_
  rintro _ _ _ _ ⟨⟨B6, k6, rfl, hk6, rfl⟩, rfl⟩
  (refine ⟨_, _, (by repeat (first | apply App.cons | exact App.nil | exact App.app)), (by repeat (first | apply App.cons | exact App.nil | exact App.app)), rfl, (by first | exact Mem.le.refl _ | assumption), (by exact (Sub.mem (by repeat (first | exact Sub.refl | apply Sub.cons)))), ?_⟩)
  ((refine TrM.settle (by kernel_rfl) (by repeat (first | exact PendOk.nil | refine PendOk.cons rfl (by repeat (first | exact SubFr.nil | refine SubFr.cons rfl ?_)) ?_)) (by exact (Sub.mem (by repeat (first | exact Sub.refl | apply Sub.cons)))) (fun b => ?_)); dsimp only)
  ((refine TrM.eff 6 rfl (by kernel_rfl) (by first | exact .inl rfl | exact .inr ⟨_, _, _, rfl, rfl, rfl⟩) (by repeat (first | exact PendOk.nil | refine PendOk.cons rfl (by repeat (first | exact SubFr.nil | refine SubFr.cons rfl ?_)) ?_)) (by exact (Sub.mem (by repeat (first | exact Sub.refl | apply Sub.cons)))) (by repeat (first | apply AppF.cons | exact AppF.nil | exact AppF.app)) (by repeat (first | apply AppF.cons | exact AppF.nil | exact AppF.app)) (fun Y X => ?_)))
  refine Exec.append (news := rqC r) rfl rfl (tysOk.get rfl) rfl (tysOk.get rfl) rfl rfl rfl rfl (by repeat (first | exact Del.here | apply Del.there)) (Src.box (by repeat (first | exact Has.here | apply Has.there))) rfl (rqC_one _) (by omega) (by omega) rfl (fun A8 c8 hc8 => ?_)
  (refine ⟨_, _, (by repeat (first | apply App.cons | exact App.nil | exact App.app)), (by repeat (first | apply App.cons | exact App.nil | exact App.app)), rfl, (by first | exact Mem.le.refl _ | assumption), (by exact (Sub.mem (by repeat (first | exact Sub.refl | apply Sub.cons)))), ?_⟩)
  rw [show k.reqs.flatMap rqC ++ rqC r = (k.reqs ++ [r]).flatMap rqC by rw [List.flatMap_append]; simp, show k.reqs.length + 1 = (k.reqs ++ [r]).length by simp]
  refine TrM.publish (x := ownS 46 6 _ _ _ _) (by repeat (first | exact Del.here | apply Del.there)) (fun M8 hm8 hok8 => ?_)
  have hm8 : Mem.le M M8 := hm8
  have hR8 : SlOf 6 RRqC M8 (.slice A8 (k.reqs ++ [r]).length c8) (k.reqs ++ [r]) := SlOf.ofOwn hok8 rfl hc8 (rqC_elems _ _)
  ((refine TrM.eff 7 rfl (by kernel_rfl) (by first | exact .inl rfl | exact .inr ⟨_, _, _, rfl, rfl, rfl⟩) (by repeat (first | exact PendOk.nil | refine PendOk.cons rfl (by repeat (first | exact SubFr.nil | refine SubFr.cons rfl ?_)) ?_)) (by exact (Sub.mem (by repeat (first | exact Sub.refl | apply Sub.cons)))) (by repeat (first | apply AppF.cons | exact AppF.nil | exact AppF.app)) (by repeat (first | apply AppF.cons | exact AppF.nil | exact AppF.app)) (fun Y X => ?_)))
  refine Exec.callv (first := []) (cap := [.pointer (some ⟨b8, 0, none⟩), .pointer (some ⟨b9, 0, none⟩)]) (A := [box b9 44 [.int .i64 k.known, .slice As k.sups.length cs, .slice Ar k.reqs.length cr, .slice Af k.fits.length cf, .slice Ad k.rds.length cd], box b8 38 ws]) rfl rfl (maker1_fn M8 ws w (hw.mono hm8) k As Ar Af Ad cs cr cf cd (h1.mono RSpC.mono hm8) (h2.mono RRqC.mono hm8) (h3.mono RRowB.mono hm8) (h4.mono RRd.mono hm8) b8 b9 A8 c8 (k.reqs ++ [r]) hR8) (take2 (by repeat (first | exact Del.here | apply Del.there)) (by repeat (first | exact Del.here | apply Del.there))) rfl ?_
  rintro v M1 _ hm1 ⟨rfl, hmk⟩
  (refine ⟨_, _, (by repeat (first | apply App.cons | exact App.nil | exact App.app)), (by repeat (first | apply App.cons | exact App.nil | exact App.app)), rfl, (by first | exact Mem.le.refl _ | assumption), (by exact (Sub.mem (by repeat (first | exact Sub.refl | apply Sub.cons)))), ?_⟩)
  have hm1 := hm8.trans hm1
  rcases hmk with ⟨hnk, rfl⟩ | ⟨hok, x, rfl, As', cs', Ar', cr', Af', cf', Ad', cd', rfl, g1, g2, g3, g4⟩
  · ((refine TrM.take 8 (by kernel_rfl) rfl (by kernel_rfl) (by first | exact fun _ _ _ h => h | exact fun _ _ _ h => nomatch h.1) (by exact (Sub.mem (by repeat (first | exact Sub.refl | apply Sub.cons)))) rfl (by first | exact Stab.move rfl) rfl rfl ?_); (refine TrM.take 9 (by kernel_rfl) rfl (by kernel_rfl) (by first | exact fun _ _ _ h => h | exact fun _ _ _ h => nomatch h.1) (by exact (Sub.mem (by repeat (first | exact Sub.refl | apply Sub.cons)))) rfl (by first | exact Stab.extract rfl rfl) rfl rfl ?_); (refine TrM.take 10 (by kernel_rfl) rfl (by kernel_rfl) (by first | exact fun _ _ _ h => h | exact fun _ _ _ h => nomatch h.1) (by exact (Sub.mem (by repeat (first | exact Sub.refl | apply Sub.cons)))) rfl (by first | exact Stab.extract rfl rfl) rfl rfl ?_); (refine TrM.settle (by kernel_rfl) (by repeat (first | exact PendOk.nil | refine PendOk.cons rfl (by repeat (first | exact SubFr.nil | refine SubFr.cons rfl ?_)) ?_)) (by exact (Sub.mem (by repeat (first | exact Sub.refl | apply Sub.cons)))) (fun b => ?_)); dsimp only; (refine TrM.fin ?_))
    ((refine TrA.eff 12 rfl (by kernel_rfl) (by first | exact .inl rfl | exact .inr ⟨_, _, _, rfl, rfl, rfl⟩) ?_); (((refine Knd.store ?_); ((refine Exec.storeW rfl rfl (tysOk.get rfl) (by repeat (first | exact Upd.here | apply Upd.there)) rfl rfl (by repeat (first | (with_reducible assumption) | exact AllOne.nil | exact AllOne.bytes _ | refine AllOne.cons (by first | rfl | assumption) ?_)) ?_)))); (refine ⟨(by first | exact Mem.le.refl _ | assumption), (by exact (Sub.mem (by repeat (first | exact Sub.refl | apply Sub.cons)))), ?_⟩); (refine tkQ 13 (s := by exact Stab.assign rfl) (h := ?_)); (refine TrA.done (by kernel_rfl) ?_))
    (repeat (first | ((with_reducible refine Tr.step rfl ?_); (with_reducible refine Knd.move ?_); (refine xmQ (z := ?_))) | (with_reducible first | apply Tr.next | apply Tr.seq | apply Tr.region)))
    ((refine Tr.step rfl ?_))
    refine Exec.callP rfl (must_n M1 290 (by decide)) (List.Perm.refl _) rfl (fun v M' A' hm hR => hR.elim) (fun ch M' A' hm hR => ?_)
    obtain ⟨rfl, rfl, rfl⟩ := hR
    (repeat ((with_reducible refine Tr.then_panic ?_)))
    refine Tr.doneP (A' := []) (hm1.trans hm) (by repeat (first | exact DropL.refl | apply DropL.skip)) ⟨290, rfl, rfl, ?_, by decide⟩
    rw [okT_app hv.2.1] at hnk
    rw [askE, if_neg (fun h => h hv), if_neg hno, if_pos]
    by_cases hq : okRq r
    · have := not_and.1 hnk hq
      exact .inr (by omega)
    · exact .inl hq
  have hbase : okRq r := hok.2.2 r (by simp)
  have hrl : k.reqs.length + 1 ≤ 64 := by have := hok.1.2; simpa using this
  dsimp only [mkF] at g1 g2 g3 g4 ⊢
  ((refine TrM.take 8 (by kernel_rfl) rfl (by kernel_rfl) (by first | exact fun _ _ _ h => h | exact fun _ _ _ h => nomatch h.1) (by exact (Sub.mem (by repeat (first | exact Sub.refl | apply Sub.cons)))) rfl (by first | exact Stab.move rfl) rfl rfl ?_); (refine TrM.take 9 (by kernel_rfl) rfl (by kernel_rfl) (by first | exact fun _ _ _ h => h | exact fun _ _ _ h => nomatch h.1) (by exact (Sub.mem (by repeat (first | exact Sub.refl | apply Sub.cons)))) rfl (by first | exact Stab.extract rfl rfl) rfl rfl ?_); (refine TrM.take 10 (by kernel_rfl) rfl (by kernel_rfl) (by first | exact fun _ _ _ h => h | exact fun _ _ _ h => nomatch h.1) (by exact (Sub.mem (by repeat (first | exact Sub.refl | apply Sub.cons)))) rfl (by first | exact Stab.extract rfl rfl) rfl rfl ?_); (refine TrM.settle (by kernel_rfl) (by repeat (first | exact PendOk.nil | refine PendOk.cons rfl (by repeat (first | exact SubFr.nil | refine SubFr.cons rfl ?_)) ?_)) (by exact (Sub.mem (by repeat (first | exact Sub.refl | apply Sub.cons)))) (fun b => ?_)); dsimp only; (refine TrM.fin ?_))
  ((refine TrA.eff 12 rfl (by kernel_rfl) (by first | exact .inl rfl | exact .inr ⟨_, _, _, rfl, rfl, rfl⟩) ?_); (((refine Knd.store ?_); ((refine Exec.storeW rfl rfl (tysOk.get rfl) (by repeat (first | exact Upd.here | apply Upd.there)) rfl rfl (by repeat (first | (with_reducible assumption) | exact AllOne.nil | exact AllOne.bytes _ | refine AllOne.cons (by first | rfl | assumption) ?_)) ?_)))); (refine ⟨(by first | exact Mem.le.refl _ | assumption), (by exact (Sub.mem (by repeat (first | exact Sub.refl | apply Sub.cons)))), ?_⟩); (refine tkQ 13 (s := by exact Stab.assign rfl) (h := ?_)); (refine TrA.done (by kernel_rfl) ?_))
  (repeat (first | ((with_reducible refine Tr.step rfl ?_); (with_reducible refine Knd.move ?_); (refine xmQ (z := ?_))) | (with_reducible first | apply Tr.next | apply Tr.seq | apply Tr.region)))
  generalize b = bx
  ((refine Tr.step rfl ?_)); refine Exec.call0 rfl (must_y M1) rfl ?_
  rintro _ _ _ rfl
  (repeat (first | ((with_reducible refine Tr.step rfl ?_); (first | (refine xmQ (z := ?_)) | (refine xwQ (z := ?_)) | ((with_reducible refine Knd.buildSlice ?_); (refine Exec.buildSlice (tysOk.get rfl) rfl (tysOk.get rfl) rfl rfl rfl rfl rfl (by repeat (first | exact BuildP.nil | ((apply BuildP.one); (rfl); (rfl); (first | rfl | assumption); (repeat (first | exact SetL.z | apply SetL.s))) | ((apply BuildP.many); (rfl); (rfl); (rfl); (rfl); (repeat (first | exact PutL.nil | ((apply PutL.cons); (repeat (first | exact SetL.z | apply SetL.s)))))))) rfl (fun b => ?_))))) | (with_reducible first | apply Tr.next | apply Tr.seq | apply Tr.region | apply Tr.nil)))
  refine pbQ (r := box b 46 _) (k := fun M2 hm2 hokb => ?_)
  have hokb : (box b 46 (rqC r)).ok M2 := hokb
  have hone : SlOf 6 RRqC M2 (.slice (some ⟨b, 0, none⟩) 1 1) [r] := SlOf.ofBoxC (n := 1) (c := 1) (xs := [r]) hokb rfl rfl (Nat.le_refl _) (by decide) (rqC_one r) (rqC_elems M2 [r])
  have hm02 := hm1.trans hm2
  ((refine Tr.step rfl ?_))
  refine Exec.callv (first := []) (cap := [.pointer (some ⟨b8, 0, none⟩), .pointer (some ⟨b9, 0, none⟩)]) (A := [box b9 44 [.int .i64 k.known, .slice As k.sups.length cs, .slice Ar k.reqs.length cr, .slice Af k.fits.length cf, .slice Ad k.rds.length cd], box b8 38 ws]) rfl rfl (maker1_fn M2 ws w (hw.mono hm02) k As Ar Af Ad cs cr cf cd (h1.mono RSpC.mono hm02) (h2.mono RRqC.mono hm02) (h3.mono RRowB.mono hm02) (h4.mono RRd.mono hm02) b8 b9 (some ⟨b, 0, none⟩) 1 [r] hone) (take2 (by repeat (first | exact Del.here | apply Del.there)) (by repeat (first | exact Del.here | apply Del.there))) rfl ?_
  rintro v M3 _ hm3 ⟨rfl, hmk⟩
  rcases hmk with ⟨hnk, rfl⟩ | ⟨-, x, rfl, A1, c1, A2, c2, A3, c3, D, cD, rfl, -, -, -, hD⟩
  · exact absurd ⟨⟨hok.1.1, by simp⟩, hok.2.1, fun y hy => by simp at hy; subst hy; exact hbase⟩ hnk
  dsimp only [mkF] at hD ⊢
  (repeat (first | ((with_reducible refine Tr.step rfl ?_); (first | (refine xmQ (z := ?_)) | (refine xaQ (z := ?_)) | ((with_reducible refine Knd.store ?_); (refine Exec.storeW rfl rfl (tysOk.get rfl) (by repeat (first | exact Upd.here | apply Upd.there)) rfl rfl (by repeat (first | (with_reducible assumption) | exact AllOne.nil | exact AllOne.bytes _ | refine AllOne.cons (by first | rfl | assumption) ?_)) ?_)) | ((with_reducible refine Knd.alloc ?_); (refine Exec.alloc (tysOk.get rfl) rfl rfl (fun b => ?_))) | ((with_reducible refine Knd.extract ?_); (refine Exec.stab rfl (Stab.extract rfl rfl) rfl ?_)))) | (with_reducible first | apply Tr.next | apply Tr.seq | apply Tr.region | apply Tr.nil)))
  ((refine Tr.step rfl ?_)); refine Exec.call0 rfl (must_y M3) rfl ?_
  rintro _ _ _ rfl
  (repeat (first | ((with_reducible refine Tr.step rfl ?_); (first | ((with_reducible refine Knd.load ?_); (first | (refine xlQ (z := ?_)) | (refine xwQ (z := ?_)))) | (refine xfQ (z := ?_)) | (refine xSQ (z := ?_)))) | (with_reducible first | apply Tr.next | apply Tr.seq | apply Tr.region | apply Tr.nil)))
  have hm13 := hm2.trans hm3
  have ga : (amR (k.reqs ++ [r])).length = k.reqs.length + 1 := by simp [amR]
  ((refine Tr.step rfl ?_)); refine Exec.call0 rfl (amounts_fn M3 (mkF w k (k.reqs ++ [r])) As' Ar' Af' Ad' cs' cr' cf' cd' (g1.mono RSpC.mono hm13) (g2.mono RRqC.mono hm13) (g3.mono RRowB.mono hm13) (g4.mono RRd.mono hm13) (by show k.sups.length ≤ _; omega) (by show (k.reqs ++ [r]).length ≤ _; simp; omega)) rfl ?_
  rintro _ M4 hm4 ⟨P1, q1, P2, q2, rfl, hI1, hI2⟩
  dsimp only [mkF] at hI1 hI2 ⊢
  (repeat (first | ((with_reducible refine Tr.step rfl ?_); (first | (refine xmQ (z := ?_)) | (refine xaQ (z := ?_)) | (refine xlQ (z := ?_)) | (refine xfQ (z := ?_)) | ((with_reducible refine Knd.extract ?_); (refine Exec.stab rfl (Stab.extract rfl rfl) rfl ?_)))) | (with_reducible first | apply Tr.next | apply Tr.seq | apply Tr.region | apply Tr.nil)))
  have hvld := okT_vld (w := w) (known := k.known) hok
  have rs : I64s (amS k.sups) := fun x hx => by have := hvld.rs x hx; omega
  have rn : I64s (amR (k.reqs ++ [r])) := fun x hx => by have := hvld.rn x hx; omega
  have hm14 := hm13.trans hm4
  ((refine Tr.step rfl ?_)); refine Exec.call0 rfl (flow_fn M4 Af' P1 P2 cf' q1 q2 (fitsT w k.known k.sups (k.reqs ++ [r])) (amS k.sups) (amR (k.reqs ++ [r])) (g3.mono RRowB.mono hm14) hI1 hI2 rs rn) rfl ?_
  have hask : askE w k r = 0 := by rw [askE, if_neg (fun h => h hv), if_neg hno, if_neg (fun h => h.elim (fun h => h hbase) (fun h => by omega))]
  rintro _ M5 hm5 (⟨hbad, -⟩ | ⟨-, hnf, B, kk, rfl, hI⟩ | ⟨-, al, hlex, A9, c9, rfl, hI⟩)
  · rw [vld_iff.2 hvld] at hbad
    cases hbad
  rotate_left
  · (repeat (first | ((with_reducible refine Tr.step rfl ?_); (first | (refine xmQ (z := ?_)) | (refine xaQ (z := ?_)) | ((with_reducible refine Knd.extract ?_); (refine Exec.stab rfl (Stab.extract rfl rfl) rfl ?_)))) | (with_reducible first | apply Tr.next | apply Tr.seq | apply Tr.region | apply Tr.nil)))
    ((refine Tr.step rfl ?_)); refine Exec.call0 rfl (must_y M5) rfl ?_
    rintro _ _ _ rfl
    (repeat (first | ((with_reducible refine Tr.step rfl ?_); (first | (refine xmQ (z := ?_)) | (refine xfQ (z := ?_)) | (refine xSQ (z := ?_)))) | (with_reducible first | apply Tr.next | apply Tr.seq | apply Tr.region | apply Tr.nil) | (refine Tr.cond_bt rfl (by first | (with_reducible rfl) | (with_reducible assumption) | (with_reducible exact Bool.not_true) | (with_reducible exact Bool.not_false)) ?_)))
    refine ftQ (r := box bx 44 _) (k := ?_)
    refine ftQ (r := box b7 60 _) (k := ?_)
    refine ftQ (r := box b6 44 _) (k := ?_)
    (((apply Tr.draw ((box b7 60 _ :: _))); (kernel_rfl)); (refine tkQ 0 (hB := by exact (Sub.mem (by repeat (first | exact Sub.refl | apply Sub.cons)))) (s := by exact swQ) (h := ?_)); (refine tkQ 1 (s := by exact swQ) (h := ?_)); (refine TrA.eff 2 rfl (by kernel_rfl) (by first | exact .inl rfl | exact .inr ⟨_, _, _, rfl, rfl, rfl⟩) ?_); (((refine Knd.store ?_); ((refine Exec.storeW rfl rfl (tysOk.get rfl) (by repeat (first | exact Upd.here | apply Upd.there)) rfl rfl (by repeat (first | (with_reducible assumption) | exact AllOne.nil | exact AllOne.bytes _ | refine AllOne.cons (by first | rfl | assumption) ?_)) ?_)))); (refine ⟨(by first | exact Mem.le.refl _ | assumption), (by exact (Sub.mem (by repeat (first | exact Sub.refl | apply Sub.cons)))), ?_⟩); (refine TrA.effD 3 rfl (by kernel_rfl) (by kernel_rfl) (by first | exact .inl rfl | exact .inr ⟨_, _, _, rfl, rfl, rfl⟩) ?_); (((refine Knd.store ?_); ((refine Exec.storeW rfl rfl (tysOk.get rfl) (by repeat (first | exact Upd.here | apply Upd.there)) rfl rfl (by repeat (first | (with_reducible assumption) | exact AllOne.nil | exact AllOne.bytes _ | refine AllOne.cons (by first | rfl | assumption) ?_)) ?_)))); (refine ⟨_, fun _ h => h, ?_⟩); (refine TrA.done (by kernel_rfl) ?_))
    (repeat (first | (with_reducible first | apply Tr.next | apply Tr.ret | apply Tr.then_ret)))
    have hm15 := hm14.trans hm5
    have hm05 := hm1.trans hm15
    have hm35 := hm4.trans hm5
    refine Tr.ofPost ?_
    (refine Tr.done (by first | exact .inl rfl | exact .inr rfl) rfl (by repeat (first | exact RVs.nil | (apply RVs.cons; (exact RV.cellW (by rfl) (tysOk.get (by rfl)) (by rfl) (by repeat (first | exact Has.here | apply Has.there)) (by first | rfl | assumption))))) (by first | exact Mem.le.refl _ | assumption) (by exact ⟨[_, _, _, _, _, _, _, _, _, _], rfl⟩) ⟨rfl, ?_⟩)
    exact ⟨hask, _, _, rfl, D, cD, hD.mono RRd.mono hm35, .inl ⟨⟨al, hlex.1⟩, ⟨As', cs', Ar', cr', Af', cf', Ad', cd', rfl, g1.mono RSpC.mono hm15, g2.mono RRqC.mono hm15, g3.mono RRowB.mono hm15, g4.mono RRd.mono hm15⟩, al, A9, c9, hlex, rfl, hI⟩⟩
  (repeat (first | ((with_reducible refine Tr.step rfl ?_); (first | (refine xmQ (z := ?_)) | (refine xaQ (z := ?_)) | ((with_reducible refine Knd.extract ?_); (refine Exec.stab rfl (Stab.extract rfl rfl) rfl ?_)))) | (with_reducible first | apply Tr.next | apply Tr.seq | apply Tr.region | apply Tr.nil)))
  ((refine Tr.step rfl ?_)); refine Exec.call0 rfl (must_y M5) rfl ?_
  rintro _ _ _ rfl
  (repeat (first | ((with_reducible refine Tr.step rfl ?_); (first | (refine xmQ (z := ?_)) | (refine xnQ (z := ?_)))) | (with_reducible first | apply Tr.next | apply Tr.seq | apply Tr.region | apply Tr.nil | apply Tr.skip | apply Tr.block) | (refine Tr.cond_bf rfl (by first | (with_reducible rfl) | (with_reducible assumption) | (with_reducible exact Bool.not_true) | (with_reducible exact Bool.not_false)) ?_)))
  generalize b = ba
  refine gvQ (r := box ba _ _) (k := ?_)
  refine gvQ (r := box b9 _ _) (k := ?_)
  refine gvQ (r := box b8 _ _) (k := ?_)
  refine gvQ (r := box _ 46 _) (k := ?_)
  refine gvQ (r := box b5 _ _) (k := ?_)
  refine gvQ (r := box b3 _ _) (k := ?_)
  refine Tr.own_nil 3 1 ?_
  have hI : Ints M5 (.slice B (cutB w k r).length kk) (cutB w k r) := hI
  have hcl : (cutB w k r).length ≤ 64 := Nat.le_trans (memF_len _ _) (by omega)
  have hcm : ∀ x ∈ cutB w k r, ∃ n : Nat, n < (k.reqs ++ [r]).length ∧ x = (n : Int) := fun x hx => by
    simp only [cutB, memF, List.mem_map, List.mem_filter, List.mem_range] at hx
    obtain ⟨n, ⟨hn, -⟩, rfl⟩ := hx
    exact ⟨n, by simpa [amR] using hn, rfl⟩
  refine Tr.loop (α := Nat × Option Addr × Nat) (fun y => ⟨96, [(78, .int .i64 (y.1 : Int)), (77, .int .i64 ((cutB w k r).length : Int)), (76, .slice B (cutB w k r).length kk), (9, .pointer (some ⟨bx, 0, none⟩)), (7, .pointer (some ⟨b7, 0, none⟩)), (6, .pointer (some ⟨b6, 0, none⟩)), (4, .pointer (some ⟨b4, 0, none⟩))], [], M5,
      ownS 3 1 y.2.1 y.1 y.2.2 (intV ((confF w k r).take y.1)) :: box bx 44 [.int .i64 k.known, .slice As' k.sups.length cs', .slice Ar' (k.reqs ++ [r]).length cr', .slice Af' (fitsT w k.known k.sups (k.reqs ++ [r])).length cf', .slice Ad' (readsF w k.sups (k.reqs ++ [r])).length cd'] :: box b7 60 [.bool false, .slice none 0 0, .slice y.2.1 y.1 y.2.2, .slice D (readsF w k.sups [r]).length cD] :: box b6 44 [.int .i64 0, .slice none 0 0, .slice none 0 0, .slice none 0 0, .slice none 0 0] :: box b4 44 [.int .i64 k.known, .slice As k.sups.length cs, .slice Ar k.reqs.length cr, .slice Af k.fits.length cf, .slice Ad k.rds.length cd] :: ([] ++ F)⟩)
    (fun y => y.1 ≤ (cutB w k r).length ∧ y.2.2 ≤ 9223372036854775807) (fun y => (cutB w k r).length - y.1) (0, none, 0) ⟨Nat.zero_le _, by simp⟩ hsQ (fun y hy => ?_)
  obtain ⟨i, C, cc⟩ := y
  obtain ⟨hi, hcc⟩ := hy
  simp only at hi hcc
  dsimp only
  have hm15 := hm14.trans hm5
  have hm05 := hm1.trans hm15
  have hm35 := hm4.trans hm5
  by_cases hlt : i < (cutB w k r).length
  · obtain ⟨x, hx⟩ := get_of_lt hlt
    obtain ⟨hA, hat⟩ := hI.at hx
    obtain ⟨n, hn, rfl⟩ := hcm x (List.mem_of_getElem? hx)
    obtain ⟨y, hy⟩ := get_of_lt hn
    obtain ⟨hA2, ch2, hat2, rfl⟩ := (g2.mono RRqC.mono hm15).elem hy
    have hat3 : At M5 (((Ar'.getD default).add (n * 6)).add 0) [.int .i64 y.no, .int .i64 y.item, .int .i64 y.cust, .int .i64 y.due, .int .i64 y.shelf, .int .i64 y.amount] := hat2.drop 0
    have hcf : (confF w k r).take (i + 1) = (confF w k r).take i ++ [y.no] := by
      unfold confF
      have e2 : ((k.reqs ++ [r]).map (·.no)).getD ((n : Int)).toNat 0 = y.no := by
        rw [List.getD_eq_getElem?_getD, Int.toNat_natCast, List.getElem?_map, hy]; rfl
      rw [← List.map_take, ← List.map_take, nums_take _ hx, e2]
    (repeat (first | ((with_reducible refine Tr.step rfl ?_); (first | (refine xaQ (z := ?_)) | (refine xMQ (z := ?_)) | (refine xiQ (z := ?_)) | (refine xxQ (z := ?_)))) | (with_reducible first | apply Tr.next | apply Tr.seq | apply Tr.region | apply Tr.nil | apply Tr.skip | apply Tr.block) | (refine Tr.cond_t rfl (by first | (with_reducible assumption) | (with_reducible rfl) | (with_reducible exact (not_not_intro rfl)) | omega) ?_)))
    (((apply Tr.draw ((box bx 44 _ :: _))); (kernel_rfl)); (refine tkQ 0 (hB := by exact (Sub.mem (by repeat (first | exact Sub.refl | apply Sub.cons)))) (s := by exact sfQ) (h := ?_)); (refine tkQ 2 (s := by exact sfQ) (h := ?_)); (refine tkQ 4 (s := by exact Stab.move rfl) (h := ?_)); (refine tkQ 1 (s := by exact slQ) (h := ?_)); (refine tkQ 3 (s := by exact slQ) (h := ?_)); (refine tkQ 5 (s := by exact sxQ) (h := ?_)); (refine tkQ 6 (s := by exact Stab.fieldD rfl (tysOk.get rfl) rfl rfl (tysOk.get rfl) rfl) (h := ?_)); (refine tkQ 7 (s := by exact sMQ) (h := ?_)); (refine TrA.eff 8 rfl (by kernel_rfl) (by first | exact .inl rfl | exact .inr ⟨_, _, _, rfl, rfl, rfl⟩) ?_); (((refine Knd.buildSlice ?_); ((refine Exec.buildSlice (tysOk.get rfl) rfl (tysOk.get rfl) rfl rfl rfl rfl rfl (by repeat (first | exact BuildP.nil | ((apply BuildP.one); (rfl); (rfl); (first | rfl | assumption); (repeat (first | exact SetL.z | apply SetL.s))))) rfl (fun b => ?_))))); (refine ⟨(by first | exact Mem.le.refl _ | assumption), (by exact (Sub.mem (by repeat (first | exact Sub.refl | apply Sub.cons)))), ?_⟩); (refine TrA.eff 9 rfl (by kernel_rfl) (by first | exact .inl rfl | exact .inr ⟨_, _, _, rfl, rfl, rfl⟩) ?_))
    refine Exec.append (news := [.int .i64 y.no]) rfl rfl (tysOk.get rfl) rfl (tysOk.get rfl) rfl rfl rfl rfl (by repeat (first | exact Del.here | apply Del.there)) (Src.box (by repeat (first | exact Has.here | apply Has.there))) rfl (by intro u hu; simp at hu; subst hu; rfl) (by omega) (by omega) rfl (fun C2 cc2 hcc2 => ?_)
    refine ⟨(by first | exact Mem.le.refl _ | assumption), (by exact (Sub.mem (by repeat (first | exact Sub.refl | apply Sub.cons)))), ?_⟩
    ((refine tkQ 10 (s := by exact sfQ) (h := ?_)); (refine TrA.effD 11 rfl (by kernel_rfl) (by kernel_rfl) (by first | exact .inl rfl | exact .inr ⟨_, _, _, rfl, rfl, rfl⟩) ?_); (((refine Knd.store ?_); ((refine xSQ (z := ?_))))); (refine ⟨_, fun _ h => h, ?_⟩); (refine TrA.done (by kernel_rfl) ?_))
    refine gvQ (r := box _ 3 _) (k := ?_)
    rw [show intV ((confF w k r).take i) ++ [Value.int .i64 y.no] = intV ((confF w k r).take (i + 1)) by rw [hcf, intV_append]; rfl]
    (repeat (first | ((with_reducible refine Tr.step rfl ?_); (first | (refine xmQ (z := ?_)) | (refine xdQ (z := ?_)))) | (with_reducible first | apply Tr.next | apply Tr.region | apply Tr.nil | apply Tr.in_normal)))
    exact Tr.again (i + 1, C2, cc2) ⟨by simp only; omega, hcc2⟩ (by simp only; omega) hsQ
  have ei : i = (cutB w k r).length := by omega
  subst ei
  have hcfl : (confF w k r).length = (cutB w k r).length := by simp [confF]
  rw [← hcfl, List.take_length]
  refine pbQ (r := ownS 3 1 C _ _ _) (k := fun M6 hm6 hok6 => ?_)
  have hC : Ints M6 (.slice C (confF w k r).length cc) (confF w k r) := Ints.ofOwn hok6 rfl hcc
  have hm06 := hm05.trans hm6
  have hm36 := hm35.trans hm6
  (repeat (first | ((with_reducible refine Tr.step rfl ?_); (with_reducible refine Knd.binOp ?_); (refine xiQ (z := ?_))) | (with_reducible first | apply Tr.next | apply Tr.seq | apply Tr.region | apply Tr.nil | apply Tr.exit | apply Tr.then_exit) | ((with_reducible refine Tr.in_exit ?_ ?_); (exact rfl)) | (refine Tr.cond_f rfl (by first | (with_reducible assumption) | (with_reducible rfl) | (with_reducible exact (not_not_intro rfl)) | omega) ?_)))
  refine ftQ (r := box b6 44 _) (k := ?_)
  (((apply Tr.draw ((box bx 44 _ :: _))); (kernel_rfl)); (refine tkQ 0 (hB := by exact (Sub.mem (by repeat (first | exact Sub.refl | apply Sub.cons)))) (s := by exact swQ) (h := ?_)); (refine tkQ 1 (s := by exact swQ) (h := ?_)); (refine TrA.eff 2 rfl (by kernel_rfl) (by first | exact .inl rfl | exact .inr ⟨_, _, _, rfl, rfl, rfl⟩) ?_); (((refine Knd.store ?_); ((refine Exec.storeW rfl rfl (tysOk.get rfl) (by repeat (first | exact Upd.here | apply Upd.there)) rfl rfl (by repeat (first | (with_reducible assumption) | exact AllOne.nil | exact AllOne.bytes _ | refine AllOne.cons (by first | rfl | assumption) ?_)) ?_)))); (refine ⟨(by first | exact Mem.le.refl _ | assumption), (by exact (Sub.mem (by repeat (first | exact Sub.refl | apply Sub.cons)))), ?_⟩); (refine TrA.effD 3 rfl (by kernel_rfl) (by kernel_rfl) (by first | exact .inl rfl | exact .inr ⟨_, _, _, rfl, rfl, rfl⟩) ?_); (((refine Knd.store ?_); ((refine Exec.storeW rfl rfl (tysOk.get rfl) (by repeat (first | exact Upd.here | apply Upd.there)) rfl rfl (by repeat (first | (with_reducible assumption) | exact AllOne.nil | exact AllOne.bytes _ | refine AllOne.cons (by first | rfl | assumption) ?_)) ?_)))); (refine ⟨_, fun _ h => h, ?_⟩); (refine TrA.done (by kernel_rfl) ?_))
  (repeat (first | (with_reducible first | apply Tr.next | apply Tr.ret)))
  refine Tr.ofPost ?_
  (refine Tr.done (by first | exact .inl rfl | exact .inr rfl) rfl (by repeat (first | exact RVs.nil | (apply RVs.cons; (exact RV.cellW (by rfl) (tysOk.get (by rfl)) (by rfl) (by repeat (first | exact Has.here | apply Has.there)) (by first | rfl | assumption))))) (by first | exact Mem.le.refl _ | assumption) (by exact ⟨[_, _, _, _], rfl⟩) ⟨rfl, ?_⟩)
  exact ⟨hask, _, _, rfl, D, cD, hD.mono RRd.mono hm36, .inr ⟨hnf, ⟨As, cs, Ar, cr, Af, cf, Ad, cd, rfl, h1.mono RSpC.mono hm06, h2.mono RRqC.mono hm06, h3.mono RRowB.mono hm06, h4.mono RRd.mono hm06⟩, C, cc, rfl, hC⟩⟩
end Go.Proofs.Ytlifjajcmnkhfaa

/-
  Promises: Ask and New.
  Conditions: none.
-/
namespace Go.Proofs.Ytlifjajcmnkhfaa
open Go Bf
attribute [local irreducible] Tr Exec Stab HasTy Go.Addr.add IntKind.wrap
theorem RBp.lit {M : Mem} {v : Value} {k : Bp} (h : RBp M v k) : ∃ As cs Ar cr Af cf Ad cd, v = .agg #[.int .i64 k.known, .slice As k.sups.length cs, .slice Ar k.reqs.length cr, .slice Af k.fits.length cf, .slice Ad k.rds.length cd] := by
  obtain ⟨As, cs, Ar, cr, Af, cf, Ad, cd, rfl, -⟩ := h
  exact ⟨As, cs, Ar, cr, Af, cf, Ad, cd, rfl⟩
/-- an answer's cells -/
theorem AskR.lit {w : Wd} {k : Bp} {r : Rq} {x a : Value} {M : Mem} (h : AskR w k r x a M) : ∃ x1 x2 x3 x4 x5 a1 a2 a3 a4, x = .agg #[x1, x2, x3, x4, x5] ∧ a = .agg #[a1, a2, a3, a4] ∧ (x1.oneCell' = true ∧ x2.oneCell' = true ∧ x3.oneCell' = true ∧ x4.oneCell' = true ∧ x5.oneCell' = true) ∧ a1.oneCell' = true ∧ a2.oneCell' = true ∧ a3.oneCell' = true ∧ a4.oneCell' = true := by
  obtain ⟨D, cd, -, ⟨-, hx, al, A, c, -, rfl, -⟩ | ⟨-, hx, B, c, rfl, -⟩⟩ := h <;> obtain ⟨As, cs, Ar, cr, Af, cf, Ad, cd, rfl⟩ := hx.lit <;> exact ⟨_, _, _, _, _, _, _, _, _, rfl, rfl, ⟨rfl, rfl, rfl, rfl, rfl⟩, rfl, rfl, rfl, rfl⟩
/-- what Ask answers -/
def AskV (w : Wd) (k : Bp) (r : Rq) (v : Value) (M : Mem) : Prop :=
  (askE w k r = 0 ∧ okB w k ∧ ∃ x a, v = .tuple #[x, a, .int .i64 0] ∧ AskR w k r x a M) ∨ (askE w k r ≠ 0 ∧ v = .tuple #[.agg #[.int .i64 0, .slice none 0 0, .slice none 0 0, .slice none 0 0, .slice none 0 0], .agg #[.bool false, .slice none 0 0, .slice none 0 0, .slice none 0 0], .int .i64 (askE w k r)])
set_option maxHeartbeats 8000000 in
theorem ask1c_fn (M : Mem) (ws : List Value) (w : Wd) (hw : RWd M ws w) (k : Bp) (As Ar Af Ad : Option Addr) (cs cr cf cd : Nat) (h1 : SlOf 6 RSpC M (.slice As k.sups.length cs) k.sups) (h2 : SlOf 6 RRqC M (.slice Ar k.reqs.length cr) k.reqs) (h3 : Fits2 M (.slice Af k.fits.length cf) k.fits) (h4 : SlOf 5 RRd M (.slice Ad k.rds.length cd) k.rds) (hfc : cf ≤ 9223372036854775807) (r : Rq) (b3 b4 b5 b6 b7 : Nat) :
    FnP Try.prog 24 [.pointer (some ⟨b3, 0, none⟩), .pointer (some ⟨b4, 0, none⟩), .pointer (some ⟨b5, 0, none⟩), .pointer (some ⟨b6, 0, none⟩), .pointer (some ⟨b7, 0, none⟩)] M [box b3 38 ws, box b4 44 [.int .i64 k.known, .slice As k.sups.length cs, .slice Ar k.reqs.length cr, .slice Af k.fits.length cf, .slice Ad k.rds.length cd], box b5 46 [.int .i64 r.no, .int .i64 r.item, .int .i64 r.cust, .int .i64 r.due, .int .i64 r.shelf, .int .i64 r.amount], box b6 44 [.int .i64 0, .slice none 0 0, .slice none 0 0, .slice none 0 0, .slice none 0 0], box b7 60 [.bool false, .slice none 0 0, .slice none 0 0, .slice none 0 0]]
      (fun _ M' A' => okB w k ∧ askE w k r = 0 ∧ ∃ x1 x2 x3 x4 x5 a1 a2 a3 a4, AskR w k r (.agg #[x1, x2, x3, x4, x5]) (.agg #[a1, a2, a3, a4]) M' ∧ A' = [box b6 44 [x1, x2, x3, x4, x5], box b7 60 [a1, a2, a3, a4]])
      (fun ch _ A' => ∃ e, ch = prCh e ∧ A' = [box b6 44 [.int .i64 0, .slice none 0 0, .slice none 0 0, .slice none 0 0, .slice none 0 0], box b7 60 [.bool false, .slice none 0 0, .slice none 0 0, .slice none 0 0]] ∧ askE w k r = e ∧ e ≠ 0) := by
  have h11 := hw.len
  refine FnP.intro Try.func24 rfl rfl Try.ntmps24 rfl fun E F => ?_
  (repeat (first | ((with_reducible refine Tr.step rfl ?_); (with_reducible refine Knd.load ?_); (first | (refine xwQ (z := ?_)) | (refine Exec.stab rfl (Stab.loadW rfl (tysOk.get rfl) rfl (by repeat (first | exact Has.here | apply Has.there)) (by assumption)) rfl ?_))) | (with_reducible first | apply Tr.seq | apply Tr.region)))
  ((refine Tr.step rfl ?_))
  refine Exec.callP rfl (check_fn M ws w hw k As Ar Af Ad cs cr cf cd h1 h2 h3 h4 hfc) (List.Perm.refl _) rfl (fun v M' A' hm hR => ?_) (fun ch M' A' hm hR => ?_)
  rotate_left
  · obtain ⟨rfl, rfl, hn⟩ := hR
    (repeat ((with_reducible refine Tr.then_panic ?_)))
    exact Tr.doneP (A' := [box b6 44 [.int .i64 0, .slice none 0 0, .slice none 0 0, .slice none 0 0, .slice none 0 0], box b7 60 [.bool false, .slice none 0 0, .slice none 0 0, .slice none 0 0]]) hm (by repeat (first | exact DropL.refl | apply DropL.skip)) ⟨310, rfl, rfl, by rw [askE, if_pos hn], by decide⟩
  obtain ⟨rfl, hv⟩ := hR
  (repeat (first | ((with_reducible refine Tr.step rfl ?_); (with_reducible refine Knd.load ?_); (first | (refine xwQ (z := ?_)) | (refine Exec.stab rfl (Stab.loadW rfl (tysOk.get rfl) rfl (by repeat (first | exact Has.here | apply Has.there)) (by assumption)) rfl ?_))) | (with_reducible first | apply Tr.next | apply Tr.region | apply Tr.nil)))
  ((refine Tr.step rfl ?_))
  refine Exec.callP rfl (ask_fn M' ws w (hw.mono hm) k As Ar Af Ad cs cr cf cd (h1.mono RSpC.mono hm) (h2.mono RRqC.mono hm) (h3.mono RRowB.mono hm) (h4.mono RRd.mono hm) hv r) (List.Perm.refl _) rfl (fun v M2 A' hm2 hR => ?_) (fun ch M2 A' hm2 hR => ?_)
  rotate_left
  · obtain ⟨e, rfl, rfl, he, hne⟩ := hR
    (skip)
    exact Tr.doneP (A' := [box b6 44 [.int .i64 0, .slice none 0 0, .slice none 0 0, .slice none 0 0, .slice none 0 0], box b7 60 [.bool false, .slice none 0 0, .slice none 0 0, .slice none 0 0]]) (hm.trans hm2) (by repeat (first | exact DropL.refl | apply DropL.skip)) ⟨e, rfl, rfl, he, hne⟩
  obtain ⟨rfl, hask, x, a, rfl, hR⟩ := hR
  obtain ⟨x1, x2, x3, x4, x5, a1, a2, a3, a4, rfl, rfl, ⟨o1, o2, o3, o4, o5⟩, o6, o7, o8, o9⟩ := hR.lit
  (repeat (first | ((with_reducible refine Tr.step rfl ?_); (first | (refine xmQ (z := ?_)) | ((with_reducible refine Knd.store ?_); (refine Exec.storeW rfl rfl (tysOk.get rfl) (by repeat (first | exact Upd.here | apply Upd.there)) rfl rfl (by repeat (first | (with_reducible assumption) | exact AllOne.nil | exact AllOne.bytes _ | refine AllOne.cons (by first | rfl | assumption) ?_)) ?_)) | ((with_reducible refine Knd.extract ?_); (refine Exec.stab rfl (Stab.extract rfl rfl) rfl ?_)))) | (with_reducible refine Tr.nil ?_)))
  refine Tr.ofPost ?_
  refine Tr.doneB (A' := [box b6 44 [x1, x2, x3, x4, x5], box b7 60 [a1, a2, a3, a4]]) [_, _, _] (by first | exact .inl rfl | exact .inr rfl) rfl (by repeat (exact RVs.nil)) (hm.trans hm2) (List.Perm.refl _) ⟨hv, hask, x1, x2, x3, x4, x5, a1, a2, a3, a4, hR, rfl⟩
set_option maxHeartbeats 8000000 in
theorem askA_fn (M : Mem) (ws : List Value) (w : Wd) (hw : RWd M ws w) (v : Value) (k : Bp) (hk : RBp M v k) (_ : k.fits.length ≤ 9223372036854775807) (r : Rq) :
    Fn0 Try.prog 12 [.agg ws.toArray, v, .agg #[.int .i64 r.no, .int .i64 r.item, .int .i64 r.cust, .int .i64 r.due, .int .i64 r.shelf, .int .i64 r.amount]] M (fun v M' => AskV w k r v M') := by
  have h11 := hw.len
  obtain ⟨As, cs, Ar, cr, Af, cf, Ad, cd, rfl, h1, h2, h3, h4⟩ := hk
  have hfc2 := fits_cap h3
  refine Fn.intro Try.func12 rfl rfl Try.ntmps12 rfl fun E F => ?_
  (repeat (first | ((with_reducible refine Tr.step rfl ?_); (first | (refine xaQ (z := ?_)) | ((with_reducible refine Knd.makeFunc ?_); (refine Exec.stab rfl (Stab.makeFunc rfl rfl) rfl ?_)) | ((with_reducible refine Knd.box ?_); (refine Exec.box rfl rfl (fun b => ?_))) | ((with_reducible refine Knd.alloc ?_); (refine Exec.alloc (tysOk.get rfl) rfl rfl (fun b => ?_))))) | (with_reducible first | apply Tr.next | apply Tr.seq | apply Tr.region | apply Tr.nil)))
  rename_i b3 b4 b5 b6
  generalize b = b7
  ((refine Tr.step rfl ?_))
  refine Exec.call (A := [box b3 38 ws, box b4 44 [.int .i64 k.known, .slice As k.sups.length cs, .slice Ar k.reqs.length cr, .slice Af k.fits.length cf, .slice Ad k.rds.length cd], box b5 46 [.int .i64 r.no, .int .i64 r.item, .int .i64 r.cust, .int .i64 r.due, .int .i64 r.shelf, .int .i64 r.amount], box b6 44 [.int .i64 0, .slice none 0 0, .slice none 0 0, .slice none 0 0, .slice none 0 0], box b7 60 [.bool false, .slice none 0 0, .slice none 0 0, .slice none 0 0]]) rfl (pattempt_fn M 24 [.pointer (some ⟨b3, 0, none⟩), .pointer (some ⟨b4, 0, none⟩), .pointer (some ⟨b5, 0, none⟩), .pointer (some ⟨b6, 0, none⟩), .pointer (some ⟨b7, 0, none⟩)] _ _ (fun e _ A' => A' = [box b6 44 [.int .i64 0, .slice none 0 0, .slice none 0 0, .slice none 0 0, .slice none 0 0], box b7 60 [.bool false, .slice none 0 0, .slice none 0 0, .slice none 0 0]] ∧ askE w k r = e ∧ e ≠ 0) (ask1c_fn M ws w hw k As Ar Af Ad cs cr cf cd h1 h2 h3 h4 hfc2.2 r b3 b4 b5 b6 b7)) (take5 (by repeat (first | exact Del.here | apply Del.there)) (by repeat (first | exact Del.here | apply Del.there)) (by repeat (first | exact Del.here | apply Del.there)) (by repeat (first | exact Del.here | apply Del.there)) (by repeat (first | exact Del.here | apply Del.there))) rfl ?_
  rintro _ M1 A' hm (⟨rfl, -, hv, hask, x1, x2, x3, x4, x5, a1, a2, a3, a4, hR, rfl⟩ | ⟨e, rfl, rfl, he, hne⟩)
  · simp only [List.cons_append, List.nil_append]
    obtain ⟨y1, y2, y3, y4, y5, z1, z2, z3, z4, e1, e2, ⟨o1, o2, o3, o4, o5⟩, o6, o7, o8, o9⟩ := hR.lit
    injection e1 with e1
    injection e2 with e2
    simp only [Array.mk.injEq, List.cons.injEq, and_true] at e1 e2
    obtain ⟨rfl, rfl, rfl, rfl, rfl⟩ := e1
    obtain ⟨rfl, rfl, rfl, rfl⟩ := e2
    (repeat (first | ((with_reducible refine Tr.step rfl ?_); (with_reducible refine Knd.assign ?_); (refine xaQ (z := ?_))) | (with_reducible first | apply Tr.next | apply Tr.seq | apply Tr.nil)))
    (((apply Tr.draw); (kernel_rfl)); (refine tkQ 0 (hB := by exact fun _ h => h) (s := by exact swQ) (h := ?_)); (refine tkQ 1 (s := by exact swQ) (h := ?_)); (refine tkQ 2 (s := by exact Stab.move rfl) (h := ?_)); (refine TrA.eff 3 rfl (by kernel_rfl) (by first | exact .inl rfl | exact .inr ⟨_, _, _, rfl, rfl, rfl⟩) ?_); (((refine Knd.store ?_); ((refine Exec.storeW rfl rfl (tysOk.get rfl) (by repeat (first | exact Upd.here | apply Upd.there)) rfl rfl (by repeat (first | (with_reducible assumption) | exact AllOne.nil | exact AllOne.bytes _ | refine AllOne.cons (by first | rfl | assumption) ?_)) ?_)))); (refine ⟨(by first | exact Mem.le.refl _ | assumption), (by exact fun _ h => h), ?_⟩); (refine TrA.eff 4 rfl (by kernel_rfl) (by first | exact .inl rfl | exact .inr ⟨_, _, _, rfl, rfl, rfl⟩) ?_); (((refine Knd.store ?_); ((refine Exec.storeW rfl rfl (tysOk.get rfl) (by repeat (first | exact Upd.here | apply Upd.there)) rfl rfl (by repeat (first | (with_reducible assumption) | exact AllOne.nil | exact AllOne.bytes _ | refine AllOne.cons (by first | rfl | assumption) ?_)) ?_)))); (refine ⟨(by first | exact Mem.le.refl _ | assumption), (by exact fun _ h => h), ?_⟩); (refine tkQ 5 (s := by exact Stab.assign rfl) (h := ?_)); (refine TrA.done (by kernel_rfl) ?_))
    (repeat (first | (with_reducible first | apply Tr.next | apply Tr.ret)))
    (refine Tr.done (by first | exact .inl rfl | exact .inr rfl) rfl (by repeat (first | exact RVs.nil | (apply RVs.cons; (first | exact RV.tmp rfl | exact RV.cellW (by rfl) (tysOk.get (by rfl)) (by rfl) (by repeat (first | exact Has.here | apply Has.there)) (by first | rfl | assumption))))) (by first | exact Mem.le.refl _ | assumption) (by exact ⟨[_, _], rfl⟩) ⟨rfl, ?_⟩)
    exact .inl ⟨hask, hv, _, _, rfl, hR⟩
  · simp only [List.cons_append, List.nil_append]
    (repeat (first | ((with_reducible refine Tr.step rfl ?_); (with_reducible refine Knd.assign ?_); (refine xaQ (z := ?_))) | (with_reducible first | apply Tr.next | apply Tr.seq | apply Tr.nil)))
    (((apply Tr.draw); (kernel_rfl)); (refine tkQ 0 (hB := by exact fun _ h => h) (s := by exact swQ) (h := ?_)); (refine tkQ 1 (s := by exact swQ) (h := ?_)); (refine tkQ 2 (s := by exact Stab.move rfl) (h := ?_)); (refine TrA.eff 3 rfl (by kernel_rfl) (by first | exact .inl rfl | exact .inr ⟨_, _, _, rfl, rfl, rfl⟩) ?_); (((refine Knd.store ?_); ((refine Exec.storeW rfl rfl (tysOk.get rfl) (by repeat (first | exact Upd.here | apply Upd.there)) rfl rfl (by repeat (first | (with_reducible assumption) | exact AllOne.nil | exact AllOne.bytes _ | refine AllOne.cons (by first | rfl | assumption) ?_)) ?_)))); (refine ⟨(by first | exact Mem.le.refl _ | assumption), (by exact fun _ h => h), ?_⟩); (refine TrA.eff 4 rfl (by kernel_rfl) (by first | exact .inl rfl | exact .inr ⟨_, _, _, rfl, rfl, rfl⟩) ?_); (((refine Knd.store ?_); ((refine Exec.storeW rfl rfl (tysOk.get rfl) (by repeat (first | exact Upd.here | apply Upd.there)) rfl rfl (by repeat (first | (with_reducible assumption) | exact AllOne.nil | exact AllOne.bytes _ | refine AllOne.cons (by first | rfl | assumption) ?_)) ?_)))); (refine ⟨(by first | exact Mem.le.refl _ | assumption), (by exact fun _ h => h), ?_⟩); (refine tkQ 5 (s := by exact Stab.assign rfl) (h := ?_)); (refine TrA.done (by kernel_rfl) ?_))
    (repeat (first | (with_reducible first | apply Tr.next | apply Tr.ret)))
    (refine Tr.done (by first | exact .inl rfl | exact .inr rfl) rfl (by repeat (first | exact RVs.nil | (apply RVs.cons; (first | exact RV.tmp rfl | exact RV.cellW (by rfl) (tysOk.get (by rfl)) (by rfl) (by repeat (first | exact Has.here | apply Has.there)) (by first | rfl | assumption))))) (by first | exact Mem.le.refl _ | assumption) (by exact ⟨[_, _], rfl⟩) ⟨rfl, ?_⟩)
    exact .inr ⟨he ▸ hne, by rw [he]; rfl⟩
end Go.Proofs.Ytlifjajcmnkhfaa

/-
  Promises: New. Refusals: amounts and Least.
  Conditions: none.
-/
namespace Go.Proofs.Ytlifjajcmnkhfaa
open Go Bf
attribute [local irreducible] Tr Exec Stab HasTy Go.Addr.add IntKind.wrap
def bkN (known : Int) (s : List Sp) : Bp := ⟨known, s, [], [], []⟩
/-- what New answers -/
def NewV (w : Wd) (s : List Sp) (known : Int) (v : Value) (M : Mem) : Prop :=
  (¬ okT s [] ∧ v = .tuple #[.agg #[.int .i64 0, .slice none 0 0, .slice none 0 0, .slice none 0 0, .slice none 0 0], .int .i64 290]) ∨ (okT s [] ∧ ¬ (s.map (·.no)).Nodup ∧ v = .tuple #[.agg #[.int .i64 0, .slice none 0 0, .slice none 0 0, .slice none 0 0, .slice none 0 0], .int .i64 310]) ∨
  (okT s [] ∧ (s.map (·.no)).Nodup ∧ ∃ x, v = .tuple #[x, .int .i64 0] ∧ RBp M x (mkF w (bkN known s) []))
set_option maxHeartbeats 8000000 in
theorem new_fn (M : Mem) (ws : List Value) (w : Wd) (hw : RWd M ws w) (As : Option Addr) (cs : Nat) (s : List Sp) (hs : SlOf 6 RSpC M (.slice As s.length cs) s) (known : Int) :
    Fn0 Try.prog 13 [.agg ws.toArray, .slice As s.length cs, .int .i64 known] M (fun v M' => NewV w s known v M') := by
  have h11 := hw.len
  refine Fn.intro Try.func13 rfl rfl Try.ntmps13 rfl fun E F => ?_
  (repeat (first | ((with_reducible refine Tr.step rfl ?_); (first | (refine xmQ (z := ?_)) | (refine xaQ (z := ?_)) | ((with_reducible refine Knd.load ?_); (refine Exec.stab rfl (Stab.loadW rfl (tysOk.get rfl) rfl (by repeat (first | exact Has.here | apply Has.there)) (by assumption)) rfl ?_)) | ((with_reducible refine Knd.box ?_); (refine Exec.box rfl rfl (fun b => ?_))) | ((with_reducible refine Knd.alloc ?_); (refine Exec.alloc (tysOk.get rfl) rfl rfl (fun b => ?_))) | ((with_reducible refine Knd.build ?_); (refine Exec.stab rfl (Stab.build tysOk rfl rfl rfl rfl (by repeat (first | exact BuildP.nil | ((apply BuildP.one); (rfl); (rfl); (first | rfl | assumption); (repeat (first | exact SetL.z | apply SetL.s))) | ((apply BuildP.many); (rfl); (rfl); (rfl); (rfl); (repeat (first | exact PutL.nil | ((apply PutL.cons); (repeat (first | exact SetL.z | apply SetL.s))))))))) rfl ?_)))) | (with_reducible first | apply Tr.next | apply Tr.seq | apply Tr.region | apply Tr.nil)))
  rename_i b3
  generalize b = b6
  ((refine Tr.step rfl ?_))
  refine Exec.call (A := []) rfl (maker_fn M ws (bkN known s) As none none none cs 0 0 0) (List.Perm.refl _) rfl ?_
  rintro _ _ _ _ ⟨b8, b9, rfl, rfl, rfl⟩
  (skip)
  ((refine Tr.step rfl ?_))
  refine Exec.callv (first := []) (cap := [.pointer (some ⟨b8, 0, none⟩), .pointer (some ⟨b9, 0, none⟩)]) (A := [box b9 44 [.int .i64 known, .slice As s.length cs, .slice none 0 0, .slice none 0 0, .slice none 0 0], box b8 38 ws]) rfl rfl (maker1_fn M ws w hw (bkN known s) As none none none cs 0 0 0 hs (SlOf.nil _ _ _) (SlOf.nil _ _ _) (SlOf.nil _ _ _) b8 b9 none 0 [] (SlOf.nil _ _ _)) (take2 (by repeat (first | exact Del.here | apply Del.there)) (by repeat (first | exact Del.here | apply Del.there))) rfl ?_
  rintro v M1 _ hm1 ⟨rfl, hmk⟩
  rcases hmk with ⟨hnk, rfl⟩ | ⟨hok, x, rfl, As', cs', Ar', cr', Af', cf', Ad', cd', rfl, g1, g2, g3, g4⟩
  · (repeat (first | ((with_reducible refine Tr.step rfl ?_); (first | (refine xmQ (z := ?_)) | (refine xaQ (z := ?_)) | (refine xiQ (z := ?_)) | ((with_reducible refine Knd.store ?_); (refine Exec.storeW rfl rfl (tysOk.get rfl) (by repeat (first | exact Upd.here | apply Upd.there)) rfl rfl (by repeat (first | (with_reducible assumption) | exact AllOne.nil | exact AllOne.bytes _ | refine AllOne.cons (by first | rfl | assumption) ?_)) ?_)) | ((with_reducible refine Knd.extract ?_); (refine Exec.stab rfl (Stab.extract rfl rfl) rfl ?_)) | ((with_reducible refine Knd.build ?_); (refine Exec.stab rfl (Stab.build tysOk rfl rfl rfl rfl (by repeat (first | exact BuildP.nil | ((apply BuildP.one); (rfl); (rfl); (first | rfl | assumption); (repeat (first | exact SetL.z | apply SetL.s))) | ((apply BuildP.many); (rfl); (rfl); (rfl); (rfl); (repeat (first | exact PutL.nil | ((apply PutL.cons); (repeat (first | exact SetL.z | apply SetL.s))))))))) rfl ?_)))) | (with_reducible first | apply Tr.next | apply Tr.seq | apply Tr.region | apply Tr.nil | apply Tr.ret | apply Tr.then_ret) | (refine Tr.cond_t rfl (by first | (with_reducible assumption) | (with_reducible rfl) | (with_reducible exact (not_not_intro rfl)) | omega) ?_)))
    (refine Tr.done (by first | exact .inl rfl | exact .inr rfl) rfl (by repeat (first | exact RVs.nil | (apply RVs.cons; (first | exact RV.tmp rfl | exact RV.cellW (by rfl) (tysOk.get (by rfl)) (by rfl) (by repeat (first | exact Has.here | apply Has.there)) (by first | rfl | assumption))))) (by first | exact Mem.le.refl _ | assumption) (by exact ⟨[_, _, _, _], rfl⟩) ⟨rfl, ?_⟩)
    exact .inl ⟨hnk, rfl⟩
  dsimp only [mkF] at g1 g2 g3 g4 ⊢
  (repeat (first | ((with_reducible refine Tr.step rfl ?_); (first | (refine xmQ (z := ?_)) | (refine xaQ (z := ?_)) | (refine xiQ (z := ?_)) | ((with_reducible refine Knd.store ?_); (refine Exec.storeW rfl rfl (tysOk.get rfl) (by repeat (first | exact Upd.here | apply Upd.there)) rfl rfl (by repeat (first | (with_reducible assumption) | exact AllOne.nil | exact AllOne.bytes _ | refine AllOne.cons (by first | rfl | assumption) ?_)) ?_)) | ((with_reducible refine Knd.extract ?_); (refine Exec.stab rfl (Stab.extract rfl rfl) rfl ?_)))) | (with_reducible first | apply Tr.next | apply Tr.seq | apply Tr.region | apply Tr.nil | apply Tr.skip) | (refine Tr.cond_f rfl (by first | (with_reducible assumption) | (with_reducible rfl) | (with_reducible exact (not_not_intro rfl)) | omega) ?_)))
  ((refine Tr.step rfl ?_)); refine Exec.call0 rfl (twins_fn M1 As cs s (hs.mono RSpC.mono hm1)) rfl ?_
  rintro _ _ _ ⟨⟨tw, rfl, htw⟩, rfl⟩
  cases tw with
  | true =>
    (repeat (first | ((with_reducible refine Tr.step rfl ?_); (first | (refine xaQ (z := ?_)) | ((with_reducible refine Knd.store ?_); (refine Exec.storeW rfl rfl (tysOk.get rfl) (by repeat (first | exact Upd.here | apply Upd.there)) rfl rfl (by repeat (first | (with_reducible assumption) | exact AllOne.nil | exact AllOne.bytes _ | refine AllOne.cons (by first | rfl | assumption) ?_)) ?_)) | ((with_reducible refine Knd.build ?_); (refine Exec.stab rfl (Stab.build tysOk rfl rfl rfl rfl (by repeat (first | exact BuildP.nil | ((apply BuildP.one); (rfl); (rfl); (first | rfl | assumption); (repeat (first | exact SetL.z | apply SetL.s))) | ((apply BuildP.many); (rfl); (rfl); (rfl); (rfl); (repeat (first | exact PutL.nil | ((apply PutL.cons); (repeat (first | exact SetL.z | apply SetL.s))))))))) rfl ?_)))) | (with_reducible first | apply Tr.next | apply Tr.seq | apply Tr.region | apply Tr.nil | apply Tr.ret | apply Tr.then_ret) | (refine Tr.cond_bt rfl (by first | (with_reducible rfl) | (with_reducible assumption) | (with_reducible exact Bool.not_true) | (with_reducible exact Bool.not_false)) ?_)))
    (refine Tr.done (by first | exact .inl rfl | exact .inr rfl) rfl (by repeat (first | exact RVs.nil | (apply RVs.cons; (first | exact RV.tmp rfl | exact RV.cellW (by rfl) (tysOk.get (by rfl)) (by rfl) (by repeat (first | exact Has.here | apply Has.there)) (by first | rfl | assumption))))) (by first | exact Mem.le.refl _ | assumption) (by exact ⟨[_, _, _, _], rfl⟩) ⟨rfl, ?_⟩)
    exact .inr (.inl ⟨hok, fun h => (by have := htw.2 h; cases this), rfl⟩)
  | false =>
    (repeat (first | ((with_reducible refine Tr.step rfl ?_); (first | (refine xaQ (z := ?_)) | (refine xwQ (z := ?_)) | ((with_reducible refine Knd.store ?_); (refine Exec.storeW rfl rfl (tysOk.get rfl) (by repeat (first | exact Upd.here | apply Upd.there)) rfl rfl (by repeat (first | (with_reducible assumption) | exact AllOne.nil | exact AllOne.bytes _ | refine AllOne.cons (by first | rfl | assumption) ?_)) ?_)))) | (with_reducible first | apply Tr.next | apply Tr.seq | apply Tr.region | apply Tr.nil | apply Tr.skip | apply Tr.ret) | (refine Tr.cond_bf rfl (by first | (with_reducible rfl) | (with_reducible assumption) | (with_reducible exact Bool.not_true) | (with_reducible exact Bool.not_false)) ?_)))
    (refine Tr.done (by first | exact .inl rfl | exact .inr rfl) rfl (by repeat (first | exact RVs.nil | (apply RVs.cons; (first | exact RV.tmp rfl | exact RV.cellW (by rfl) (tysOk.get (by rfl)) (by rfl) (by repeat (first | exact Has.here | apply Has.there)) (by first | rfl | assumption))))) (by first | exact Mem.le.refl _ | assumption) (by exact ⟨[_, _, _, _], rfl⟩) ⟨rfl, ?_⟩)
    exact .inr (.inr ⟨hok, htw.1 rfl, _, rfl, As', cs', Ar', cr', Af', cf', Ad', cd', rfl, g1, g2, g3, g4⟩)
set_option maxHeartbeats 8000000 in
theorem ramounts_fn (M : Mem) (s : List Sp) (r : List Rq) (As Ar : Option Addr) (cs cr : Nat) (h1 : SlOf 6 RSpC M (.slice As s.length cs) s) (h2 : SlOf 6 RRqC M (.slice Ar r.length cr) r) (hs64 : s.length ≤ 1000000) (hr64 : r.length ≤ 1000000) :
    Fn0 Try.prog 20 [.slice As s.length cs, .slice Ar r.length cr] M (fun v M' => ∃ A1 c1 A2 c2, v = .tuple #[.slice A1 (amS s).length c1, .slice A2 (amR r).length c2] ∧ Ints M' (.slice A1 (amS s).length c1) (amS s) ∧ Ints M' (.slice A2 (amR r).length c2) (amR r)) := by
  refine Fn.intro Try.func20 rfl rfl Try.ntmps20 rfl fun E F => ?_
  (repeat (first | ((with_reducible refine Tr.step rfl ?_); (first | (refine xmQ (z := ?_)) | (refine xaQ (z := ?_)) | (refine xnQ (z := ?_)))) | (with_reducible first | apply Tr.next | apply Tr.seq | apply Tr.region | apply Tr.nil | apply Tr.block)))
  refine Tr.own_nil 3 1 ?_
  refine Tr.loop (α := Nat × Option Addr × Nat) (fun y => ⟨36, [(12, .int .i64 (y.1 : Int)), (11, .int .i64 (s.length : Int)), (10, .slice As s.length cs), (4, .slice y.2.1 y.1 y.2.2), (5, .slice none 0 0), (1, .slice Ar r.length cr)], [], M, ownS 3 1 y.2.1 y.1 y.2.2 (intV ((s.take y.1).map (·.amount))) :: ([] ++ F)⟩)
    (fun y => y.1 ≤ s.length ∧ y.2.2 ≤ 9223372036854775807) (fun y => s.length - y.1) (0, none, 0) ⟨Nat.zero_le _, by simp⟩ hsQ (fun y hy => ?_)
  obtain ⟨i, A1, c1⟩ := y
  obtain ⟨hi, hc1⟩ := hy
  simp only at hi hc1
  dsimp only
  by_cases hlt : i < s.length
  · obtain ⟨y, hy⟩ := get_of_lt hlt
    obtain ⟨hA, ch, hat, rfl⟩ := h1.elem hy
    simp only [spC] at hat
    have e1 := nums_take (·.amount) hy
    (repeat (first | ((with_reducible refine Tr.step rfl ?_); (first | (refine xmQ (z := ?_)) | ((with_reducible refine Knd.load ?_); (first | (refine xlQ (z := ?_)) | (refine Exec.stab rfl (Stab.loadMA rfl (tysOk.get rfl) rfl (by assumption) (by first | rfl | assumption)) rfl ?_))) | (refine xfQ (z := ?_)) | (refine xiQ (z := ?_)) | ((with_reducible refine Knd.store ?_); (refine Exec.storeW rfl rfl (tysOk.get rfl) (by repeat (first | exact Upd.here | apply Upd.there)) rfl rfl (by repeat (first | (with_reducible assumption) | exact AllOne.nil | exact AllOne.bytes _ | refine AllOne.cons (by first | rfl | assumption) ?_)) ?_)) | ((with_reducible refine Knd.alloc ?_); (refine Exec.alloc (tysOk.get rfl) rfl rfl (fun b => ?_))) | (refine xxQ (z := ?_)) | ((with_reducible refine Knd.buildSlice ?_); (refine Exec.buildSlice (tysOk.get rfl) rfl (tysOk.get rfl) rfl rfl rfl rfl rfl (by repeat (first | exact BuildP.nil | ((apply BuildP.one); (rfl); (rfl); (first | rfl | assumption); (repeat (first | exact SetL.z | apply SetL.s))) | ((apply BuildP.many); (rfl); (rfl); (rfl); (rfl); (repeat (first | exact PutL.nil | ((apply PutL.cons); (repeat (first | exact SetL.z | apply SetL.s)))))))) rfl (fun b => ?_))))) | (with_reducible first | apply Tr.next | apply Tr.seq | apply Tr.region | apply Tr.nil | apply Tr.skip | apply Tr.block) | (refine Tr.cond_t rfl (by first | (with_reducible assumption) | (with_reducible rfl) | (with_reducible exact (not_not_intro rfl)) | omega) ?_)))
    ((refine Tr.step rfl ?_))
    refine Exec.append (news := [.int .i64 y.amount]) rfl rfl (tysOk.get rfl) rfl (tysOk.get rfl) rfl rfl rfl rfl (by repeat (first | exact Del.here | apply Del.there)) (Src.box (by repeat (first | exact Has.here | apply Has.there))) rfl (by intro u hu; simp at hu; subst hu; rfl) (by omega) (by omega) rfl (fun A3 c3 hc3 => ?_)
    refine gvQ (r := box b 3 _) (k := ?_)
    rw [show intV ((s.take i).map (·.amount)) ++ [Value.int .i64 y.amount] = intV ((s.take (i + 1)).map (·.amount)) by rw [e1, intV_append]; rfl]
    (repeat (first | ((with_reducible refine Tr.step rfl ?_); (first | (refine xmQ (z := ?_)) | (refine xaQ (z := ?_)) | (refine xdQ (z := ?_)))) | (with_reducible first | apply Tr.next | apply Tr.region | apply Tr.nil | apply Tr.in_normal)))
    refine gvQ (r := box _ 77 _) (k := ?_)
    exact Tr.again (i + 1, A3, c3) ⟨by simp only; omega, hc3⟩ (by simp only; omega) hsQ
  have ei : i = s.length := by omega
  subst ei
  rw [List.take_length]
  (repeat (first | ((with_reducible refine Tr.step rfl ?_); (first | (refine xmQ (z := ?_)) | (refine xnQ (z := ?_)) | (refine xiQ (z := ?_)))) | (with_reducible first | apply Tr.next | apply Tr.seq | apply Tr.region | apply Tr.nil | apply Tr.block | apply Tr.exit | apply Tr.then_exit) | ((with_reducible refine Tr.in_exit ?_ ?_); (exact rfl)) | (refine Tr.cond_f rfl (by first | (with_reducible assumption) | (with_reducible rfl) | (with_reducible exact (not_not_intro rfl)) | omega) ?_)))
  refine Tr.own_nil 3 1 ?_
  refine Tr.loop (α := Nat × Option Addr × Nat) (fun y => ⟨36, [(24, .int .i64 (y.1 : Int)), (23, .int .i64 (r.length : Int)), (22, .slice Ar r.length cr), (5, .slice y.2.1 y.1 y.2.2), (4, .slice A1 s.length c1)], [], M, ownS 3 1 y.2.1 y.1 y.2.2 (intV ((r.take y.1).map (·.amount))) :: ownS 3 1 A1 s.length c1 (intV (s.map (·.amount))) :: ([] ++ F)⟩)
    (fun y => y.1 ≤ r.length ∧ y.2.2 ≤ 9223372036854775807) (fun y => r.length - y.1) (0, none, 0) ⟨Nat.zero_le _, by simp⟩ hsQ (fun y hy => ?_)
  obtain ⟨i, A2, c2⟩ := y
  obtain ⟨hi, hc2⟩ := hy
  simp only at hi hc2
  dsimp only
  by_cases hlt : i < r.length
  · obtain ⟨y, hy⟩ := get_of_lt hlt
    obtain ⟨hA, ch, hat, rfl⟩ := h2.elem hy
    simp only [rqC] at hat
    have e1 := nums_take (·.amount) hy
    (repeat (first | ((with_reducible refine Tr.step rfl ?_); (first | (refine xmQ (z := ?_)) | ((with_reducible refine Knd.load ?_); (first | (refine xlQ (z := ?_)) | (refine Exec.stab rfl (Stab.loadMA rfl (tysOk.get rfl) rfl (by assumption) (by first | rfl | assumption)) rfl ?_))) | (refine xfQ (z := ?_)) | (refine xiQ (z := ?_)) | ((with_reducible refine Knd.store ?_); (refine Exec.storeW rfl rfl (tysOk.get rfl) (by repeat (first | exact Upd.here | apply Upd.there)) rfl rfl (by repeat (first | (with_reducible assumption) | exact AllOne.nil | exact AllOne.bytes _ | refine AllOne.cons (by first | rfl | assumption) ?_)) ?_)) | ((with_reducible refine Knd.alloc ?_); (refine Exec.alloc (tysOk.get rfl) rfl rfl (fun b => ?_))) | (refine xxQ (z := ?_)) | ((with_reducible refine Knd.buildSlice ?_); (refine Exec.buildSlice (tysOk.get rfl) rfl (tysOk.get rfl) rfl rfl rfl rfl rfl (by repeat (first | exact BuildP.nil | ((apply BuildP.one); (rfl); (rfl); (first | rfl | assumption); (repeat (first | exact SetL.z | apply SetL.s))) | ((apply BuildP.many); (rfl); (rfl); (rfl); (rfl); (repeat (first | exact PutL.nil | ((apply PutL.cons); (repeat (first | exact SetL.z | apply SetL.s)))))))) rfl (fun b => ?_))))) | (with_reducible first | apply Tr.next | apply Tr.seq | apply Tr.region | apply Tr.nil | apply Tr.skip | apply Tr.block) | (refine Tr.cond_t rfl (by first | (with_reducible assumption) | (with_reducible rfl) | (with_reducible exact (not_not_intro rfl)) | omega) ?_)))
    ((refine Tr.step rfl ?_))
    refine Exec.append (news := [.int .i64 y.amount]) rfl rfl (tysOk.get rfl) rfl (tysOk.get rfl) rfl rfl rfl rfl (by repeat (first | exact Del.here | apply Del.there)) (Src.box (by repeat (first | exact Has.here | apply Has.there))) rfl (by intro u hu; simp at hu; subst hu; rfl) (by omega) (by omega) rfl (fun A3 c3 hc3 => ?_)
    refine gvQ (r := box b 3 _) (k := ?_)
    rw [show intV ((r.take i).map (·.amount)) ++ [Value.int .i64 y.amount] = intV ((r.take (i + 1)).map (·.amount)) by rw [e1, intV_append]; rfl]
    (repeat (first | ((with_reducible refine Tr.step rfl ?_); (first | (refine xmQ (z := ?_)) | (refine xaQ (z := ?_)) | (refine xdQ (z := ?_)))) | (with_reducible first | apply Tr.next | apply Tr.region | apply Tr.nil | apply Tr.in_normal)))
    refine gvQ (r := box _ 46 _) (k := ?_)
    exact Tr.again (i + 1, A3, c3) ⟨by simp only; omega, hc3⟩ (by simp only; omega) hsQ
  have ei : i = r.length := by omega
  subst ei
  rw [List.take_length]
  refine pbQ (r := ownS 3 1 A2 _ _ _) (k := fun M2 hm2 hok => ?_)
  refine pbQ (r := ownS 3 1 A1 _ _ _) (k := fun M3 hm3 hok2 => ?_)
  have hI1 : Ints M3 (.slice A1 (amS s).length c1) (amS s) := Ints.ofOwn hok2 (by simp [amS]) hc1
  have hI2 : Ints M3 (.slice A2 (amR r).length c2) (amR r) := (Ints.ofOwn hok (by simp) hc2).mono RI.mono hm3
  have hmm := hm2.trans hm3
  rw [show s.length = (amS s).length by simp [amS], show r.length = (amR r).length by simp [amR]]
  (repeat (first | ((with_reducible refine Tr.step rfl ?_); (first | (refine xmQ (z := ?_)) | (refine xaQ (z := ?_)) | (refine xiQ (z := ?_)))) | (with_reducible first | apply Tr.next | apply Tr.seq | apply Tr.region | apply Tr.nil | apply Tr.exit | apply Tr.ret | apply Tr.then_exit) | ((with_reducible refine Tr.in_exit ?_ ?_); (exact rfl)) | (refine Tr.cond_f rfl (by first | (with_reducible assumption) | (with_reducible rfl) | (with_reducible exact (not_not_intro rfl)) | omega) ?_)))
  (refine dnQ (hL := by exact ⟨[], rfl⟩) (k := ⟨rfl, ?_⟩))
  exact ⟨_, _, _, _, rfl, hI1, hI2⟩
end Go.Proofs.Ytlifjajcmnkhfaa

