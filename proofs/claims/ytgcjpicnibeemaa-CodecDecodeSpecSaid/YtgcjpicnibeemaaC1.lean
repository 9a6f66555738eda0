/-
  The codec: how values lie in memory; the contracts of kinds, known, Int, Text and List.
  Conditions: none.
-/
import Derived.Test.YtgcjpicnibeemaaTys
import Derived.Test.YtgcjpicnibeemaaBfOpt
import Derived.Test.YtgcjpicnibeemaaBfByte
import Derived.Test.YtgcjpicnibeemaaBfRange
namespace Go.Proofs.Ytgcjpicnibeemaa
open Go Bf
attribute [local irreducible] Tr Exec Stab HasTy Go.Addr.add IntKind.wrap
inductive Val
  | mk (k n : Int) (s : List UInt8) (l : List Val)
namespace Val
def k : Val → Int | mk k _ _ _ => k
def n : Val → Int | mk _ n _ _ => n
def s : Val → List UInt8 | mk _ _ s _ => s
def l : Val → List Val | mk _ _ _ l => l
end Val
/-- the cells of a value -/
inductive RVal (M : Mem) : List Value → Val → Prop
  | mk (k n : Int) (s : List UInt8) (l : List Val) (A : Option Addr) (c : Nat) (cells : List Value) (hk : -9223372036854775808 ≤ k ∧ k ≤ 9223372036854775807) (hn : -9223372036854775808 ≤ n ∧ n ≤ 9223372036854775807) (hs : s.length ≤ 9223372036854775807) (h1 : l.length ≤ c) (h2 : c ≤ 9223372036854775807) (h3 : A = none → l.length = 0) (h4 : Row M A l.length 4 cells)
      (h5 : ∀ (i : Nat) (x : Val), l[i]? = some x → RVal M ((cells.drop (i * 4)).take 4) x) : RVal M [.int .i64 k, .int .i64 n, .string ⟨s.toArray⟩, .slice A l.length c] (.mk k n s l)
theorem RVal.mono {M M' : Mem} {cs : List Value} {v : Val} (h : RVal M cs v) (hm : Mem.le M M') : RVal M' cs v := by
  induction h with
  | mk k n s l A c cells hk hn hs h1 h2 h3 h4 h5 ih => exact .mk k n s l A c cells hk hn hs h1 h2 h3 (h4.mono hm) ih
theorem RVal.mono' (M M' : Mem) (c : List Value) (x : Val) (hm : Mem.le M M') (h : RVal M c x) : RVal M' c x := h.mono hm
/-- a list of values -/
abbrev RVals (M : Mem) (v : Value) (l : List Val) : Prop := SlOf 4 (fun M c x => RVal M c x) M v l
theorem RVal.open_ {M : Mem} {cs : List Value} {v : Val} (h : RVal M cs v) : ∃ A c, cs = [.int .i64 v.k, .int .i64 v.n, .string ⟨v.s.toArray⟩, .slice A v.l.length c] ∧ RVals M (.slice A v.l.length c) v.l ∧
    (-9223372036854775808 ≤ v.k ∧ v.k ≤ 9223372036854775807) ∧ (-9223372036854775808 ≤ v.n ∧ v.n ≤ 9223372036854775807) ∧ v.s.length ≤ 9223372036854775807 := by
  obtain ⟨k, n, s, l, A, c, cells, hk, hn, hs, h1, h2, h3, h4, h5⟩ := h
  exact ⟨A, c, rfl, ⟨A, c, cells, rfl, h1, h2, h3, h4, h5⟩, hk, hn, hs⟩
theorem RVal.close {M : Mem} {k n : Int} {s : List UInt8} {l : List Val} {A : Option Addr} {c : Nat} (hk : -9223372036854775808 ≤ k ∧ k ≤ 9223372036854775807) (hn : -9223372036854775808 ≤ n ∧ n ≤ 9223372036854775807) (hs : s.length ≤ 9223372036854775807) (h : RVals M (.slice A l.length c) l) :
    RVal M [.int .i64 k, .int .i64 n, .string ⟨s.toArray⟩, .slice A l.length c] (.mk k n s l) := by
  obtain ⟨A', c', cells, e, h1, h2, h3, h4, h5⟩ := h
  cases e
  exact .mk k n s l A c cells hk hn hs h1 h2 h3 h4 h5
/-- a value as a result -/
def RV (M : Mem) (r : Value) (v : Val) : Prop := ∃ cs : List Value, r = .agg cs.toArray ∧ RVal M cs v
theorem RV.mono {M M' : Mem} {r : Value} {v : Val} (h : RV M r v) (hm : Mem.le M M') : RV M' r v := let ⟨cs, e, h⟩ := h; ⟨cs, e, h.mono hm⟩
theorem RV.open_ {M : Mem} {r : Value} {v : Val} (h : RV M r v) : ∃ A c, r = .agg #[.int .i64 v.k, .int .i64 v.n, .string ⟨v.s.toArray⟩, .slice A v.l.length c] ∧ RV M (.agg #[.int .i64 v.k, .int .i64 v.n, .string ⟨v.s.toArray⟩, .slice A v.l.length c]) v ∧ RVals M (.slice A v.l.length c) v.l ∧
    (-9223372036854775808 ≤ v.k ∧ v.k ≤ 9223372036854775807) ∧ (-9223372036854775808 ≤ v.n ∧ v.n ≤ 9223372036854775807) ∧ v.s.length ≤ 9223372036854775807 := by
  obtain ⟨cs, rfl, h⟩ := h
  obtain ⟨A, c, rfl, h1, h2⟩ := h.open_
  exact ⟨A, c, rfl, ⟨_, rfl, h⟩, h1, h2⟩
def zVal : Val := .mk 0 0 [] []
theorem RVal.zero (M : Mem) : RVal M [.int .i64 0, .int .i64 0, .string ⟨#[]⟩, .slice none 0 0] zVal := RVal.close (A := none) (c := 0) (l := []) (s := []) (by omega) (by omega) (by simp) (SlOf.nil _ _ _)

set_option maxHeartbeats 1000000 in
theorem known_fn (M : Mem) (k : Int) : Fn0 Try.prog 53 [.int .i64 k] M (fun r M' => r = .bool (decide (1 ≤ k ∧ k ≤ 3)) ∧ M = M') := by
  refine Fn.intro Try.func53 rfl rfl Try.ntmps53 rfl fun E F => ?_
  repeat' (first | ((with_reducible refine Tr.step rfl ?_); (first | ((with_reducible refine Knd.move ?_); (refine Exec.stab rfl (Stab.move rfl) rfl ?_)) | ((with_reducible refine Knd.assign ?_); (refine Exec.stab rfl (Stab.assign rfl) rfl ?_)) | ((with_reducible refine Knd.binOp ?_); ((refine Exec.stab rfl (Stab.int rfl rfl rfl) rfl ?_))) | ((with_reducible refine Knd.pick ?_); (first | (refine Exec.stab rfl (Stab.pick_td rfl (by first | (with_reducible assumption) | omega) rfl) rfl ?_) | (refine Exec.stab rfl (Stab.pick_fd rfl (by first | (with_reducible assumption) | omega) rfl) rfl ?_))))) | (with_reducible refine Tr.next ?_) | (with_reducible refine Tr.seq ?_) | (with_reducible refine Tr.region ?_) | (with_reducible refine Tr.nil ?_) | ((refine Tr.guard_y rfl rfl rfl (by first | (with_reducible assumption) | omega) ?_); (((with_reducible refine Knd.binOp ?_); ((refine Exec.stab rfl (Stab.int rfl rfl rfl) rfl ?_))))) | (refine Tr.guard_n rfl rfl rfl (by first | (with_reducible assumption) | omega) rfl rfl ?_) | (with_reducible refine Tr.ret ?_) | (((with_reducible refine Knd.move ?_); (refine Exec.stab rfl (Stab.move rfl) rfl ?_))) | ((refine Tr.guardd rfl rfl rfl rfl rfl (fun hg => ?_) (fun hg => ?_))))
  all_goals
    (refine Tr.done (by first | exact .inl rfl | exact .inr rfl) rfl (by repeat (first | exact RVs.nil | (apply RVs.cons; (exact RV.tmp rfl)))) (by first | exact Mem.le.refl _ | assumption) (by exact ⟨[], rfl⟩) ⟨rfl, ?_⟩)
    exact ⟨by simp [resVal]; omega, rfl⟩
def fv (f : Nat) : Value := .func (.func f) #[] #[]
def kindsV : Value := .agg #[.nilFunc, .nilFunc, .nilFunc, .nilFunc, fv 36, fv 37, fv 40, fv 42, fv 43, fv 44, fv 45, fv 46, fv 47, fv 48, fv 49, fv 50]
set_option maxHeartbeats 1000000 in
theorem kinds_fn (M : Mem) : Fn0 Try.prog 26 [] M (fun r M' => r = kindsV ∧ M = M') := by
  refine Fn.intro Try.func26 rfl rfl Try.ntmps26 rfl fun E F => ?_
  repeat (first | ((with_reducible refine Tr.step rfl ?_); (first | ((with_reducible refine Knd.store ?_); ((refine Exec.storeW rfl rfl (tysOk.get rfl) (by repeat (first | exact Upd.here | apply Upd.there)) rfl rfl (by repeat (first | exact AllOne.nil | refine AllOne.cons (by first | rfl | assumption) ?_)) ?_))) | ((with_reducible refine Knd.alloc ?_); (first | (refine Exec.alloc (tysOk.get rfl) rfl rfl (fun b => ?_)) | (refine Exec.alloc1 (tysOk.get rfl) rfl rfl rfl (fun b => ?_)))) | ((with_reducible refine Knd.build ?_); (first | (refine Exec.stab rfl (Stab.build tysOk rfl rfl rfl rfl (by repeat (first | exact BuildP.nil | ((apply BuildP.one); (rfl); (rfl); (first | rfl | assumption); (repeat (first | exact SetL.z | apply SetL.s)))))) rfl ?_) | (refine Exec.stab rfl (Stab.buildA (tysOk.get rfl) rfl (tysOk.get rfl) rfl rfl (by repeat (first | exact BuildP.nil | ((apply BuildP.many); (rfl); (rfl); (rfl); (rfl); (repeat (first | exact PutL.nil | ((apply PutL.cons); (repeat (first | exact SetL.z | apply SetL.s))))))))) rfl ?_))))) | (with_reducible refine Tr.next ?_) | (with_reducible refine Tr.seq ?_) | (with_reducible refine Tr.region ?_) | (with_reducible refine Tr.nil ?_) | (with_reducible refine Tr.ret ?_))
  (refine Tr.done (by first | exact .inl rfl | exact .inr rfl) rfl (by repeat (first | exact RVs.nil | (apply RVs.cons; (exact RV.cellW (by rfl) (tysOk.get (by rfl)) (by rfl) (by repeat (first | exact Has.here | apply Has.there)) (by rfl))))) (by first | exact Mem.le.refl _ | assumption) (by exact ⟨[_], rfl⟩) ⟨rfl, ?_⟩)
  exact ⟨rfl, rfl⟩
set_option maxHeartbeats 1000000 in
theorem int_fn (M : Mem) (n : Int) (hn : -9223372036854775808 ≤ n ∧ n ≤ 9223372036854775807) : Fn0 Try.prog 23 [.int .i64 n] M (fun r M' => RV M r (.mk 1 n [] []) ∧ M = M') := by
  refine Fn.intro Try.func23 rfl rfl Try.ntmps23 rfl fun E F => ?_
  repeat (first | ((with_reducible refine Tr.step rfl ?_); (first | ((with_reducible refine Knd.move ?_); (refine Exec.stab rfl (Stab.move rfl) rfl ?_)) | ((with_reducible refine Knd.store ?_); ((refine Exec.storeW rfl rfl (tysOk.get rfl) (by repeat (first | exact Upd.here | apply Upd.there)) rfl rfl (by repeat (first | exact AllOne.nil | refine AllOne.cons (by first | rfl | assumption) ?_)) ?_))) | ((with_reducible refine Knd.alloc ?_); (first | (refine Exec.alloc (tysOk.get rfl) rfl rfl (fun b => ?_)) | (refine Exec.alloc1 (tysOk.get rfl) rfl rfl rfl (fun b => ?_)))) | ((with_reducible refine Knd.build ?_); ((refine Exec.stab rfl (Stab.build tysOk rfl rfl rfl rfl (by repeat (first | exact BuildP.nil | ((apply BuildP.one); (rfl); (rfl); (first | rfl | assumption); (repeat (first | exact SetL.z | apply SetL.s)))))) rfl ?_))))) | (with_reducible refine Tr.next ?_) | (with_reducible refine Tr.seq ?_) | (with_reducible refine Tr.region ?_) | (with_reducible refine Tr.nil ?_) | (with_reducible refine Tr.ret ?_))
  (refine Tr.done (by first | exact .inl rfl | exact .inr rfl) rfl (by repeat (first | exact RVs.nil | (apply RVs.cons; (exact RV.cellW (by rfl) (tysOk.get (by rfl)) (by rfl) (by repeat (first | exact Has.here | apply Has.there)) (by rfl))))) (by first | exact Mem.le.refl _ | assumption) (by exact ⟨[_], rfl⟩) ⟨rfl, ?_⟩)
  exact ⟨⟨_, rfl, RVal.close (A := none) (c := 0) (l := []) (s := []) (by omega) hn (by simp) (SlOf.nil _ _ _)⟩, rfl⟩
set_option maxHeartbeats 1000000 in
theorem text_fn (M : Mem) (s : List UInt8) (hs : s.length ≤ 9223372036854775807) : Fn0 Try.prog 24 [.string ⟨s.toArray⟩] M (fun r M' => RV M r (.mk 2 0 s []) ∧ M = M') := by
  refine Fn.intro Try.func24 rfl rfl Try.ntmps24 rfl fun E F => ?_
  repeat (first | ((with_reducible refine Tr.step rfl ?_); (first | ((with_reducible refine Knd.move ?_); (refine Exec.stab rfl (Stab.move rfl) rfl ?_)) | ((with_reducible refine Knd.store ?_); ((refine Exec.storeW rfl rfl (tysOk.get rfl) (by repeat (first | exact Upd.here | apply Upd.there)) rfl rfl (by repeat (first | exact AllOne.nil | refine AllOne.cons (by first | rfl | assumption) ?_)) ?_))) | ((with_reducible refine Knd.alloc ?_); (first | (refine Exec.alloc (tysOk.get rfl) rfl rfl (fun b => ?_)) | (refine Exec.alloc1 (tysOk.get rfl) rfl rfl rfl (fun b => ?_)))) | ((with_reducible refine Knd.build ?_); ((refine Exec.stab rfl (Stab.build tysOk rfl rfl rfl rfl (by repeat (first | exact BuildP.nil | ((apply BuildP.one); (rfl); (rfl); (first | rfl | assumption); (repeat (first | exact SetL.z | apply SetL.s)))))) rfl ?_))))) | (with_reducible refine Tr.next ?_) | (with_reducible refine Tr.seq ?_) | (with_reducible refine Tr.region ?_) | (with_reducible refine Tr.nil ?_) | (with_reducible refine Tr.ret ?_))
  (refine Tr.done (by first | exact .inl rfl | exact .inr rfl) rfl (by repeat (first | exact RVs.nil | (apply RVs.cons; (exact RV.cellW (by rfl) (tysOk.get (by rfl)) (by rfl) (by repeat (first | exact Has.here | apply Has.there)) (by rfl))))) (by first | exact Mem.le.refl _ | assumption) (by exact ⟨[_], rfl⟩) ⟨rfl, ?_⟩)
  exact ⟨⟨_, rfl, RVal.close (A := none) (c := 0) (l := []) (by omega) (by omega) hs (SlOf.nil _ _ _)⟩, rfl⟩
set_option maxHeartbeats 1000000 in
theorem list_fn (M : Mem) (A : Option Addr) (c : Nat) (l : List Val) (h : RVals M (.slice A l.length c) l) : Fn0 Try.prog 22 [.slice A l.length c] M (fun r M' => RV M r (.mk 3 0 [] l) ∧ M = M') := by
  refine Fn.intro Try.func22 rfl rfl Try.ntmps22 rfl fun E F => ?_
  repeat (first | ((with_reducible refine Tr.step rfl ?_); (first | ((with_reducible refine Knd.move ?_); (refine Exec.stab rfl (Stab.move rfl) rfl ?_)) | ((with_reducible refine Knd.store ?_); ((refine Exec.storeW rfl rfl (tysOk.get rfl) (by repeat (first | exact Upd.here | apply Upd.there)) rfl rfl (by repeat (first | exact AllOne.nil | refine AllOne.cons (by first | rfl | assumption) ?_)) ?_))) | ((with_reducible refine Knd.alloc ?_); (first | (refine Exec.alloc (tysOk.get rfl) rfl rfl (fun b => ?_)) | (refine Exec.alloc1 (tysOk.get rfl) rfl rfl rfl (fun b => ?_)))) | ((with_reducible refine Knd.build ?_); ((refine Exec.stab rfl (Stab.build tysOk rfl rfl rfl rfl (by repeat (first | exact BuildP.nil | ((apply BuildP.one); (rfl); (rfl); (first | rfl | assumption); (repeat (first | exact SetL.z | apply SetL.s)))))) rfl ?_))))) | (with_reducible refine Tr.next ?_) | (with_reducible refine Tr.seq ?_) | (with_reducible refine Tr.region ?_) | (with_reducible refine Tr.nil ?_) | (with_reducible refine Tr.ret ?_))
  (refine Tr.done (by first | exact .inl rfl | exact .inr rfl) rfl (by repeat (first | exact RVs.nil | (apply RVs.cons; (exact RV.cellW (by rfl) (tysOk.get (by rfl)) (by rfl) (by repeat (first | exact Has.here | apply Has.there)) (by rfl))))) (by first | exact Mem.le.refl _ | assumption) (by exact ⟨[_], rfl⟩) ⟨rfl, ?_⟩)
  exact ⟨⟨_, rfl, RVal.close (s := []) (by omega) (by omega) (by simp) h⟩, rfl⟩
end Go.Proofs.Ytgcjpicnibeemaa
