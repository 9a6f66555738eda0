/-
  Texts of the proof, one after the other.
  Conditions: none.
-/
import Derived.Test.YtlifjajcmnkhfaaGreatUBfOwnN
import Derived.Test.YtlifjajcmnkhfaaGreatUBfPan
import Derived.Test.YtlifjajcmnkhfaaGreatUBfMap
import Derived.Test.YtlifjajcmnkhfaaGreatUBfBuild
import Derived.Test.YtlifjajcmnkhfaaGreatUBfInj
import Derived.Test.YtlifjajcmnkhfaaGreatUBfPend
import Derived.Test.YtlifjajcmnkhfaaGreatUBfRec
import Derived.Test.YtlifjajcmnkhfaaGreatUBfTake
import Derived.Test.YtlifjajcmnkhfaaGreatUBfDelN
import Derived.Test.YtlifjajcmnkhfaaGreatUXs
import Derived.Test.YtlifjajcmnkhfaaGreatUa
/-
 Promises: the contracts of slices' functions on supplies, requests, keys and reads.
 Conditions: none.
-/
namespace Go.Proofs.YtlifjajcmnkhfaaGreat
open Go Bf
attribute [local irreducible] Tr Exec Stab HasTy Go.Addr.add IntKind.wrap
def RKy (_ : Mem) (c : List Value) (y : Ky) : Prop := c = kyC y
theorem RKy.mono (M M' : Mem) (c : List Value) (f : Ky) (_ : Mem.le M M') (h : RKy M c f) : RKy M' c f := h
theorem spC_len (y : Sp) : (spC y).length = 6 := rfl
theorem spC_one (y : Sp) : ∀ u ∈ spC y, u.oneCell' = true := by
 intro u hu
 simp only [spC, List.mem_cons, List.not_mem_nil, or_false] at hu
 rcases hu with rfl | rfl | rfl | rfl | rfl | rfl <;> rfl
theorem spC_elems (M : Mem) (l : List Sp) : Elems 6 RSpC M (l.flatMap spC) l := Elems.flat spC_len (fun _ => rfl) l
theorem rqC_len (y : Rq) : (rqC y).length = 6 := rfl
theorem rqC_one (y : Rq) : ∀ u ∈ rqC y, u.oneCell' = true := by
 intro u hu
 simp only [rqC, List.mem_cons, List.not_mem_nil, or_false] at hu
 rcases hu with rfl | rfl | rfl | rfl | rfl | rfl <;> rfl
theorem rqC_elems (M : Mem) (l : List Rq) : Elems 6 RRqC M (l.flatMap rqC) l := Elems.flat rqC_len (fun _ => rfl) l
theorem kyC_len (y : Ky) : (kyC y).length = 3 := rfl
theorem kyC_one (y : Ky) : ∀ u ∈ kyC y, u.oneCell' = true := by
 intro u hu
 simp only [kyC, List.mem_cons, List.not_mem_nil, or_false] at hu
 rcases hu with rfl | rfl | rfl <;> rfl
theorem kyC_elems (M : Mem) (l : List Ky) : Elems 3 RKy M (l.flatMap kyC) l := Elems.flat kyC_len (fun _ => rfl) l
theorem rdC_len (y : Rd) : (rdC y).length = 5 := rfl
theorem rdC_one (y : Rd) : ∀ u ∈ rdC y, u.oneCell' = true := by
 intro u hu
 simp only [rdC, List.mem_cons, List.not_mem_nil, or_false] at hu
 rcases hu with rfl | rfl | rfl | rfl | rfl <;> rfl
theorem rdC_elems (M : Mem) (l : List Rd) : Elems 5 RRd M (l.flatMap rdC) l := Elems.flat rdC_len (fun _ => rfl) l
theorem fcC_len (y : Fc) : (fcC y).length = 8 := rfl
theorem fcC_one (y : Fc) : ∀ u ∈ fcC y, u.oneCell' = true := by
 intro u hu
 simp only [fcC, List.mem_cons, List.not_mem_nil, or_false] at hu
 rcases hu with rfl | rfl | rfl | rfl | rfl | rfl | rfl | rfl <;> rfl
theorem fcC_elems (M : Mem) (l : List Fc) : Elems 8 RFc M (l.flatMap fcC) l := Elems.flat fcC_len (fun _ => rfl) l
set_option maxHeartbeats 2000000 in
theorem indexS_fn (M : Mem) (A : Option Addr) (c : Nat) (l : List Sp) (hl : SlOf 6 RSpC M (.slice A l.length c) l) (f : FuncId) (cap : List Value) (G : Sp → Bool) (hG : ∀ s ∈ l, Fn0 Tryz.prog f ([.agg #[.int .i64 s.no, .int .i64 s.item, .int .i64 s.plant, .int .i64 s.ready, .int .i64 s.expiry, .int .i64 s.amount]] ++ cap) M (fun v M' => v = .bool (G s) ∧ M = M')) :
  Fn0 Tryz.prog 97 [.slice A l.length c, .func (.func f) #[] cap.toArray] M (fun r M' => (∃ z : Int, r = .int .i64 z ∧ decide (0 ≤ z) = l.any G) ∧ M = M') := by
 have hll := hl.len_le
 refine Fn.intro Tryz.func97 rfl rfl Tryz.ntmps97 rfl fun E F => ?_
 (refine rQ ?_)
 refine Tr.loop (α := Nat) (fun i => ⟨19, [(8, .int .i64 i), (7, .int .i64 l.length), (0, .slice A l.length c), (1, .func (.func f) #[] cap.toArray)], [], M, [] ++ F⟩) (fun i => i ≤ l.length ∧ (l.take i).any G = false) (fun i => l.length - i) 0 ⟨by simp, by simp⟩ hsQ (fun i hi => ?_)
 obtain ⟨hi, hany⟩ := hi
 by_cases hlt : i < l.length
 ·obtain ⟨s, hx⟩ := get_of_lt hlt
  obtain ⟨hA, ch, hat, rfl⟩ := hl.elem hx
  simp only [spC] at hat
  have hg := hG s (List.mem_of_getElem? hx)
  have htake : (l.take (i + 1)).any G = ((l.take i).any G || G s) := by rw [List.take_add_one, hx]; simp
  (refine rQ ?_)
  ((refine Tr.step rfl ?_))
  refine Exec.callv (A := []) (first := []) (cap := cap) rfl rfl hg (List.Perm.refl _) rfl ?_
  rintro _ _ _ _ ⟨rfl, rfl, rfl⟩
  cases hGx : G s
  ·rw [hGx] at htake
   (refine rQ ?_)
   refine Tr.again (i + 1) ⟨hlt, by rw [htake, hany]; rfl⟩ (by omega) hsQ
  ·(refine rQ ?_)
   (refine dnQ (hL := by exact ⟨[], rfl⟩) ⟨rfl, ?_⟩)
   refine ⟨⟨i, rfl, ?_⟩, rfl⟩
   have : l.any G = true := List.any_eq_true.2 ⟨s, List.mem_of_getElem? hx, hGx⟩
   rw [this]; simp
 ·have e : i = l.length := by omega
  subst e
  rw [List.take_length] at hany
  (refine rQ ?_)
  (refine dnQ (hL := by exact ⟨[], rfl⟩) ⟨rfl, ?_⟩)
  exact ⟨⟨-1, rfl, by rw [hany]; rfl⟩, rfl⟩
set_option maxHeartbeats 1000000 in
theorem containsS_fn (M : Mem) (A : Option Addr) (c : Nat) (l : List Sp) (hl : SlOf 6 RSpC M (.slice A l.length c) l) (f : FuncId) (cap : List Value) (G : Sp → Bool) (hG : ∀ s ∈ l, Fn0 Tryz.prog f ([.agg #[.int .i64 s.no, .int .i64 s.item, .int .i64 s.plant, .int .i64 s.ready, .int .i64 s.expiry, .int .i64 s.amount]] ++ cap) M (fun v M' => v = .bool (G s) ∧ M = M')) :
  Fn0 Tryz.prog 51 [.slice A l.length c, .func (.func f) #[] cap.toArray] M (fun r M' => r = .bool (l.any G) ∧ M = M') := by
 refine Fn.intro Tryz.func51 rfl rfl Tryz.ntmps51 rfl fun E F => ?_
 (refine rQ ?_)
 ((refine Tr.step rfl ?_)); refine Exec.call0 rfl (indexS_fn M A c l hl f cap G hG) rfl ?_
 rintro _ _ _ ⟨⟨z, rfl, hz⟩, rfl⟩
 (refine rQ ?_)
 (refine dnQ (hL := by exact ⟨[], rfl⟩) ⟨rfl, ?_⟩)
 exact ⟨by rw [← hz]; rfl, rfl⟩
set_option maxHeartbeats 2000000 in
theorem indexR_fn (M : Mem) (A : Option Addr) (c : Nat) (l : List Rq) (hl : SlOf 6 RRqC M (.slice A l.length c) l) (f : FuncId) (cap : List Value) (G : Rq → Bool) (hG : ∀ r ∈ l, Fn0 Tryz.prog f ([.agg #[.int .i64 r.no, .int .i64 r.item, .int .i64 r.cust, .int .i64 r.due, .int .i64 r.shelf, .int .i64 r.amount]] ++ cap) M (fun v M' => v = .bool (G r) ∧ M = M')) :
  Fn0 Tryz.prog 99 [.slice A l.length c, .func (.func f) #[] cap.toArray] M (fun r M' => (∃ z : Int, r = .int .i64 z ∧ decide (0 ≤ z) = l.any G) ∧ M = M') := by
 have hll := hl.len_le
 refine Fn.intro Tryz.func99 rfl rfl Tryz.ntmps99 rfl fun E F => ?_
 (refine rQ ?_)
 refine Tr.loop (α := Nat) (fun i => ⟨19, [(8, .int .i64 i), (7, .int .i64 l.length), (0, .slice A l.length c), (1, .func (.func f) #[] cap.toArray)], [], M, [] ++ F⟩) (fun i => i ≤ l.length ∧ (l.take i).any G = false) (fun i => l.length - i) 0 ⟨by simp, by simp⟩ hsQ (fun i hi => ?_)
 obtain ⟨hi, hany⟩ := hi
 by_cases hlt : i < l.length
 ·obtain ⟨r, hx⟩ := get_of_lt hlt
  obtain ⟨hA, ch, hat, rfl⟩ := hl.elem hx
  simp only [rqC] at hat
  have hg := hG r (List.mem_of_getElem? hx)
  have htake : (l.take (i + 1)).any G = ((l.take i).any G || G r) := by rw [List.take_add_one, hx]; simp
  (refine rQ ?_)
  ((refine Tr.step rfl ?_))
  refine Exec.callv (A := []) (first := []) (cap := cap) rfl rfl hg (List.Perm.refl _) rfl ?_
  rintro _ _ _ _ ⟨rfl, rfl, rfl⟩
  cases hGx : G r
  ·rw [hGx] at htake
   (refine rQ ?_)
   refine Tr.again (i + 1) ⟨hlt, by rw [htake, hany]; rfl⟩ (by omega) hsQ
  ·(refine rQ ?_)
   (refine dnQ (hL := by exact ⟨[], rfl⟩) ⟨rfl, ?_⟩)
   refine ⟨⟨i, rfl, ?_⟩, rfl⟩
   have : l.any G = true := List.any_eq_true.2 ⟨r, List.mem_of_getElem? hx, hGx⟩
   rw [this]; simp
 ·have e : i = l.length := by omega
  subst e
  rw [List.take_length] at hany
  (refine rQ ?_)
  (refine dnQ (hL := by exact ⟨[], rfl⟩) ⟨rfl, ?_⟩)
  exact ⟨⟨-1, rfl, by rw [hany]; rfl⟩, rfl⟩
set_option maxHeartbeats 1000000 in
theorem containsR_fn (M : Mem) (A : Option Addr) (c : Nat) (l : List Rq) (hl : SlOf 6 RRqC M (.slice A l.length c) l) (f : FuncId) (cap : List Value) (G : Rq → Bool) (hG : ∀ r ∈ l, Fn0 Tryz.prog f ([.agg #[.int .i64 r.no, .int .i64 r.item, .int .i64 r.cust, .int .i64 r.due, .int .i64 r.shelf, .int .i64 r.amount]] ++ cap) M (fun v M' => v = .bool (G r) ∧ M = M')) :
  Fn0 Tryz.prog 54 [.slice A l.length c, .func (.func f) #[] cap.toArray] M (fun r M' => r = .bool (l.any G) ∧ M = M') := by
 refine Fn.intro Tryz.func54 rfl rfl Tryz.ntmps54 rfl fun E F => ?_
 (refine rQ ?_)
 ((refine Tr.step rfl ?_)); refine Exec.call0 rfl (indexR_fn M A c l hl f cap G hG) rfl ?_
 rintro _ _ _ ⟨⟨z, rfl, hz⟩, rfl⟩
 (refine rQ ?_)
 (refine dnQ (hL := by exact ⟨[], rfl⟩) ⟨rfl, ?_⟩)
 exact ⟨by rw [← hz]; rfl, rfl⟩
set_option maxHeartbeats 4000000 in
theorem cloneSp_fn (M : Mem) (A : Option Addr) (c : Nat) (l : List Sp) (hl : SlOf 6 RSpC M (.slice A l.length c) l) (hs : l.length ≤ 1000000) :
  Bf.Fn Tryz.prog 80 [.slice A l.length c] M [] (fun r M' A' => (∃ B k, r = .slice B l.length k ∧ k ≤ 9223372036854775807 ∧ A' = [ownS 73 6 B l.length k (l.flatMap spC)]) ∧ M = M') := by
 have hrow := SlOf.row hl (fun _ _ h => h) spC_len
 have hcap := SlOf.cells hl
 refine Fn.intro Tryz.func80 rfl rfl Tryz.ntmps80 rfl fun E F => ?_
 by_cases hA : A = none
 ·obtain ⟨-, -, -, -, hnil, -⟩ := hcap
  have hnil : l = [] := List.eq_nil_of_length_eq_zero (hnil hA)
  subst hnil
  (repeat (first | ((with_reducible refine Tr.step rfl ?_); (first | (refine xmQ ?_) | (refine xaQ ?_) | ((with_reducible refine Knd.binOp ?_); (refine Exec.stab rfl (Stab.slnil rfl (tysOk.get rfl) rfl) rfl ?_)))) | (with_reducible first | apply Tr.next | apply Tr.seq | apply Tr.region | apply Tr.nil | apply Tr.ret | apply Tr.then_ret) | (refine Tr.cond_t rfl (by (with_reducible assumption)) ?_)))
  refine Tr.own_nil 73 6 ?_
  refine Tr.doneA (A' := [ownS 73 6 none 0 0 []]) (by first | exact .inl rfl | exact .inr rfl) rfl (by repeat (first | exact RVs.nil | (apply RVs.cons; (exact RV.tmp rfl)))) (Mem.le.refl _) ⟨fun _ h => h, fun h => h⟩ ⟨⟨none, 0, rfl, by omega, rfl⟩, rfl⟩
 ·(repeat (first | ((with_reducible refine Tr.step rfl ?_); (first | (refine xmQ ?_) | (refine xaQ ?_) | ((with_reducible refine Knd.binOp ?_); (refine Exec.stab rfl (Stab.slnil rfl (tysOk.get rfl) rfl) rfl ?_)) | ((with_reducible refine Knd.buildSlice ?_); (refine Exec.buildSlice (tysOk.get rfl) rfl (tysOk.get rfl) rfl rfl rfl rfl rfl (by repeat (exact BuildP.nil)) rfl (fun b => ?_))))) | (with_reducible first | apply Tr.next | apply Tr.seq | apply Tr.region | apply Tr.nil | apply Tr.skip) | (refine Tr.cond_f rfl (by (with_reducible assumption)) ?_)))
  refine Tr.box_own 6 0 (by repeat (first | exact Upd.here | apply Upd.there)) rfl (by intro u hu; cases hu) (by simp [maxLen]) ?_
  ((refine Tr.step rfl ?_))
  refine Exec.append (news := l.flatMap spC) rfl rfl (tysOk.get rfl) rfl (tysOk.get rfl) rfl rfl rfl rfl (by repeat (first | exact Del.here | apply Del.there)) (Src.row hrow) (flatMap_len spC_len _) (flatMap_one spC_one _) (by omega) (by omega) rfl (fun A6 c6 hc6 => ?_)
  rw [Nat.zero_add]
  (refine rQ ?_)
  refine Tr.doneA (A' := [ownS 73 6 A6 l.length c6 (l.flatMap spC)]) (by first | exact .inl rfl | exact .inr rfl) rfl (by repeat (first | exact RVs.nil | (apply RVs.cons; (exact RV.tmp rfl)))) (Mem.le.refl _) ⟨fun _ h => h, fun h => h⟩ ⟨⟨A6, c6, rfl, hc6, rfl⟩, rfl⟩
set_option maxHeartbeats 4000000 in
theorem cloneRq_fn (M : Mem) (A : Option Addr) (c : Nat) (l : List Rq) (hl : SlOf 6 RRqC M (.slice A l.length c) l) (hs : l.length ≤ 1000000) :
  Bf.Fn Tryz.prog 21 [.slice A l.length c] M [] (fun r M' A' => (∃ B k, r = .slice B l.length k ∧ k ≤ 9223372036854775807 ∧ A' = [ownS 46 6 B l.length k (l.flatMap rqC)]) ∧ M = M') := by
 have hrow := SlOf.row hl (fun _ _ h => h) rqC_len
 have hcap := SlOf.cells hl
 refine Fn.intro Tryz.func21 rfl rfl Tryz.ntmps21 rfl fun E F => ?_
 by_cases hA : A = none
 ·obtain ⟨-, -, -, -, hnil, -⟩ := hcap
  have hnil : l = [] := List.eq_nil_of_length_eq_zero (hnil hA)
  subst hnil
  (repeat (first | ((with_reducible refine Tr.step rfl ?_); (first | (refine xmQ ?_) | (refine xaQ ?_) | ((with_reducible refine Knd.binOp ?_); (refine Exec.stab rfl (Stab.slnil rfl (tysOk.get rfl) rfl) rfl ?_)))) | (with_reducible first | apply Tr.next | apply Tr.seq | apply Tr.region | apply Tr.nil | apply Tr.ret | apply Tr.then_ret) | (refine Tr.cond_t rfl (by (with_reducible assumption)) ?_)))
  refine Tr.own_nil 46 6 ?_
  refine Tr.doneA (A' := [ownS 46 6 none 0 0 []]) (by first | exact .inl rfl | exact .inr rfl) rfl (by repeat (first | exact RVs.nil | (apply RVs.cons; (exact RV.tmp rfl)))) (Mem.le.refl _) ⟨fun _ h => h, fun h => h⟩ ⟨⟨none, 0, rfl, by omega, rfl⟩, rfl⟩
 ·(repeat (first | ((with_reducible refine Tr.step rfl ?_); (first | (refine xmQ ?_) | (refine xaQ ?_) | ((with_reducible refine Knd.binOp ?_); (refine Exec.stab rfl (Stab.slnil rfl (tysOk.get rfl) rfl) rfl ?_)) | ((with_reducible refine Knd.buildSlice ?_); (refine Exec.buildSlice (tysOk.get rfl) rfl (tysOk.get rfl) rfl rfl rfl rfl rfl (by repeat (exact BuildP.nil)) rfl (fun b => ?_))))) | (with_reducible first | apply Tr.next | apply Tr.seq | apply Tr.region | apply Tr.nil | apply Tr.skip) | (refine Tr.cond_f rfl (by (with_reducible assumption)) ?_)))
  refine Tr.box_own 6 0 (by repeat (first | exact Upd.here | apply Upd.there)) rfl (by intro u hu; cases hu) (by simp [maxLen]) ?_
  ((refine Tr.step rfl ?_))
  refine Exec.append (news := l.flatMap rqC) rfl rfl (tysOk.get rfl) rfl (tysOk.get rfl) rfl rfl rfl rfl (by repeat (first | exact Del.here | apply Del.there)) (Src.row hrow) (flatMap_len rqC_len _) (flatMap_one rqC_one _) (by omega) (by omega) rfl (fun A6 c6 hc6 => ?_)
  rw [Nat.zero_add]
  (refine rQ ?_)
  refine Tr.doneA (A' := [ownS 46 6 A6 l.length c6 (l.flatMap rqC)]) (by first | exact .inl rfl | exact .inr rfl) rfl (by repeat (first | exact RVs.nil | (apply RVs.cons; (exact RV.tmp rfl)))) (Mem.le.refl _) ⟨fun _ h => h, fun h => h⟩ ⟨⟨A6, c6, rfl, hc6, rfl⟩, rfl⟩
set_option maxHeartbeats 4000000 in
theorem cloneKy_fn (M : Mem) (A : Option Addr) (c : Nat) (l : List Ky) (hl : SlOf 3 RKy M (.slice A l.length c) l) (hs : l.length ≤ 1000000) :
  Bf.Fn Tryz.prog 37 [.slice A l.length c] M [] (fun r M' A' => (∃ B k, r = .slice B l.length k ∧ k ≤ 9223372036854775807 ∧ A' = [ownS 64 3 B l.length k (l.flatMap kyC)]) ∧ M = M') := by
 have hrow := SlOf.row hl (fun _ _ h => h) kyC_len
 have hcap := SlOf.cells hl
 refine Fn.intro Tryz.func37 rfl rfl Tryz.ntmps37 rfl fun E F => ?_
 by_cases hA : A = none
 ·obtain ⟨-, -, -, -, hnil, -⟩ := hcap
  have hnil : l = [] := List.eq_nil_of_length_eq_zero (hnil hA)
  subst hnil
  (repeat (first | ((with_reducible refine Tr.step rfl ?_); (first | (refine xmQ ?_) | (refine xaQ ?_) | ((with_reducible refine Knd.binOp ?_); (refine Exec.stab rfl (Stab.slnil rfl (tysOk.get rfl) rfl) rfl ?_)))) | (with_reducible first | apply Tr.next | apply Tr.seq | apply Tr.region | apply Tr.nil | apply Tr.ret | apply Tr.then_ret) | (refine Tr.cond_t rfl (by (with_reducible assumption)) ?_)))
  refine Tr.own_nil 64 3 ?_
  refine Tr.doneA (A' := [ownS 64 3 none 0 0 []]) (by first | exact .inl rfl | exact .inr rfl) rfl (by repeat (first | exact RVs.nil | (apply RVs.cons; (exact RV.tmp rfl)))) (Mem.le.refl _) ⟨fun _ h => h, fun h => h⟩ ⟨⟨none, 0, rfl, by omega, rfl⟩, rfl⟩
 ·(repeat (first | ((with_reducible refine Tr.step rfl ?_); (first | (refine xmQ ?_) | (refine xaQ ?_) | ((with_reducible refine Knd.binOp ?_); (refine Exec.stab rfl (Stab.slnil rfl (tysOk.get rfl) rfl) rfl ?_)) | ((with_reducible refine Knd.buildSlice ?_); (refine Exec.buildSlice (tysOk.get rfl) rfl (tysOk.get rfl) rfl rfl rfl rfl rfl (by repeat (exact BuildP.nil)) rfl (fun b => ?_))))) | (with_reducible first | apply Tr.next | apply Tr.seq | apply Tr.region | apply Tr.nil | apply Tr.skip) | (refine Tr.cond_f rfl (by (with_reducible assumption)) ?_)))
  refine Tr.box_own 3 0 (by repeat (first | exact Upd.here | apply Upd.there)) rfl (by intro u hu; cases hu) (by simp [maxLen]) ?_
  ((refine Tr.step rfl ?_))
  refine Exec.append (news := l.flatMap kyC) rfl rfl (tysOk.get rfl) rfl (tysOk.get rfl) rfl rfl rfl rfl (by repeat (first | exact Del.here | apply Del.there)) (Src.row hrow) (flatMap_len kyC_len _) (flatMap_one kyC_one _) (by omega) (by omega) rfl (fun A6 c6 hc6 => ?_)
  rw [Nat.zero_add]
  (refine rQ ?_)
  refine Tr.doneA (A' := [ownS 64 3 A6 l.length c6 (l.flatMap kyC)]) (by first | exact .inl rfl | exact .inr rfl) rfl (by repeat (first | exact RVs.nil | (apply RVs.cons; (exact RV.tmp rfl)))) (Mem.le.refl _) ⟨fun _ h => h, fun h => h⟩ ⟨⟨A6, c6, rfl, hc6, rfl⟩, rfl⟩
set_option maxHeartbeats 2000000 in
theorem equalRd_fn (M : Mem) (p q : List Rd) (A B : Option Addr) (c k : Nat) (hp : SlOf 5 RRd M (.slice A p.length c) p) (hq : SlOf 5 RRd M (.slice B q.length k) q) : Fn0 Tryz.prog 84 [.slice A p.length c, .slice B q.length k] M (fun r M' => (∃ b : Bool, r = .bool b ∧ (b = true ↔ p = q)) ∧ M = M') := by
 have l1 := hp.len_le
 have l2 := hq.len_le
 refine Fn.intro Tryz.func84 rfl rfl Tryz.ntmps84 rfl fun E F => ?_
 by_cases hl : p.length = q.length
 rotate_left
 ·(refine rQ ?_)
  (refine dnQ (hL := by exact ⟨[], rfl⟩) ⟨rfl, ?_⟩)
  exact ⟨⟨false, rfl, by simp; intro h; exact hl (congrArg _ h)⟩, rfl⟩
 (refine rQ ?_)
 refine Tr.loop (α := Nat) (fun i => ⟨26, [(13, .int .i64 (i : Int)), (12, .int .i64 p.length), (0, .slice A p.length c), (1, .slice B q.length k)], [], M, [] ++ F⟩) (fun i => i ≤ p.length ∧ p.take i = q.take i) (fun i => p.length - i) 0 ⟨by simp, by simp⟩ hsQ (fun i hi => ?_)
 obtain ⟨hi, heq⟩ := hi
 by_cases hlt : i < p.length
 ·obtain ⟨x, hx⟩ := get_of_lt hlt
  obtain ⟨y, hy⟩ := get_of_lt (xs := q) (i := i) (by omega)
  obtain ⟨hA, ch1, hat, rfl⟩ := hp.elem hx
  obtain ⟨hB, ch2, hbt, rfl⟩ := hq.elem hy
  simp only [rdC] at hat hbt
  have hxy : x = y ↔ [x.1.1, x.1.2.1, x.1.2.2, x.2.1, x.2.2] = [y.1.1, y.1.2.1, y.1.2.2, y.2.1, y.2.2] := by
   obtain ⟨⟨a1, a2, a3⟩, a4, a5⟩ := x
   obtain ⟨⟨b1, b2, b3⟩, b4, b5⟩ := y
   simp [and_assoc]
  by_cases hk : [x.1.1, x.1.2.1, x.1.2.2, x.2.1, x.2.2] ≠ [y.1.1, y.1.2.1, y.1.2.2, y.2.1, y.2.2]
  ·(refine rQ ?_)
   (((apply Tr.draw); (kernel_rfl)); (refine tkQ 0 (hB := by exact fun _ h => h) (s := by exact Stab.move rfl) ?_); (refine tkQ 1 (s := by exact Stab.move rfl) ?_); (refine tkQ 4 (s := by exact Stab.move rfl) ?_); (refine tkQ 5 (s := by exact Stab.move rfl) ?_); (refine tkQ 2 (s := by exact sxQ) ?_); (refine tkQ 6 (s := by exact sxQ) ?_); (refine tkQ 3 (s := by exact Stab.loadMA rfl (tysOk.get rfl) rfl (by assumption) (by first | rfl | assumption)) ?_); (refine tkQ 7 (s := by exact Stab.loadMA rfl (tysOk.get rfl) rfl (by assumption) (by first | rfl | assumption)) ?_); (refine tkQ 8 (s := by exact Stab.stneL rfl rfl (by repeat (first | exact IntsL.nil | apply IntsL.cons)) (by repeat (first | exact IntsL.nil | apply IntsL.cons)) (tysOk.get rfl) rfl (by kernel_rfl) (by kernel_rfl) rfl rfl) ?_); (refine TrA.done (by kernel_rfl) ?_))
   (refine rQ ?_)
   (refine dnQ (hL := by exact ⟨[], rfl⟩) ⟨rfl, ?_⟩)
   exact ⟨⟨false, rfl, by simp; intro h; rw [h, hy] at hx; cases hx; exact hk rfl⟩, rfl⟩
  ·(refine rQ ?_)
   (((apply Tr.draw); (kernel_rfl)); (refine tkQ 0 (hB := by exact fun _ h => h) (s := by exact Stab.move rfl) ?_); (refine tkQ 1 (s := by exact Stab.move rfl) ?_); (refine tkQ 4 (s := by exact Stab.move rfl) ?_); (refine tkQ 5 (s := by exact Stab.move rfl) ?_); (refine tkQ 2 (s := by exact sxQ) ?_); (refine tkQ 6 (s := by exact sxQ) ?_); (refine tkQ 3 (s := by exact Stab.loadMA rfl (tysOk.get rfl) rfl (by assumption) (by first | rfl | assumption)) ?_); (refine tkQ 7 (s := by exact Stab.loadMA rfl (tysOk.get rfl) rfl (by assumption) (by first | rfl | assumption)) ?_); (refine tkQ 8 (s := by exact Stab.stneL rfl rfl (by repeat (first | exact IntsL.nil | apply IntsL.cons)) (by repeat (first | exact IntsL.nil | apply IntsL.cons)) (tysOk.get rfl) rfl (by kernel_rfl) (by kernel_rfl) rfl rfl) ?_); (refine TrA.done (by kernel_rfl) ?_))
   (refine rQ ?_)
   refine Tr.again (i + 1) ⟨by omega, by rw [List.take_add_one, List.take_add_one, hx, hy, heq, hxy.2 (Classical.not_not.1 hk)]⟩ (by omega) hsQ
 ·have e : i = p.length := by omega
  subst e
  rw [List.take_length, hl, List.take_length] at heq
  (refine rQ ?_)
  (refine dnQ (hL := by exact ⟨[], rfl⟩) ⟨rfl, ?_⟩)
  exact ⟨⟨true, rfl, by simpa using heq⟩, rfl⟩
set_option maxHeartbeats 2000000 in
theorem equalBo_fn (M : Mem) (p q : List Bool) (A B : Option Addr) (c k : Nat) (hp : Bools M (.slice A p.length c) p) (hq : Bools M (.slice B q.length k) q) : Fn0 Tryz.prog 115 [.slice A p.length c, .slice B q.length k] M (fun r M' => (∃ b : Bool, r = .bool b ∧ (b = true ↔ p = q)) ∧ M = M') := by
 have l1 := hp.len_le
 have l2 := hq.len_le
 refine Fn.intro Tryz.func115 rfl rfl Tryz.ntmps115 rfl fun E F => ?_
 by_cases hl : p.length = q.length
 rotate_left
 ·(refine rQ ?_)
  (refine dnQ (hL := by exact ⟨[], rfl⟩) ⟨rfl, ?_⟩)
  exact ⟨⟨false, rfl, by simp; intro h; exact hl (congrArg _ h)⟩, rfl⟩
 (refine rQ ?_)
 refine Tr.loop (α := Nat) (fun i => ⟨26, [(13, .int .i64 (i : Int)), (12, .int .i64 p.length), (0, .slice A p.length c), (1, .slice B q.length k)], [], M, [] ++ F⟩) (fun i => i ≤ p.length ∧ p.take i = q.take i) (fun i => p.length - i) 0 ⟨by simp, by simp⟩ hsQ (fun i hi => ?_)
 obtain ⟨hi, heq⟩ := hi
 by_cases hlt : i < p.length
 ·obtain ⟨x, hx⟩ := get_of_lt hlt
  obtain ⟨y, hy⟩ := get_of_lt (xs := q) (i := i) (by omega)
  obtain ⟨hA, hat⟩ := hp.at hx
  obtain ⟨hB, hbt⟩ := hq.at hy
  by_cases hxy : ¬ x = y
  ·(refine rQ ?_)
   (((apply Tr.draw); (kernel_rfl)); (refine tkQ 0 (hB := by exact fun _ h => h) (s := by exact Stab.move rfl) ?_); (refine tkQ 1 (s := by exact Stab.move rfl) ?_); (refine tkQ 4 (s := by exact Stab.move rfl) ?_); (refine tkQ 5 (s := by exact Stab.move rfl) ?_); (refine tkQ 2 (s := by exact sxQ) ?_); (refine tkQ 6 (s := by exact sxQ) ?_); (refine tkQ 3 (s := by exact sMQ) ?_); (refine tkQ 7 (s := by exact sMQ) ?_); (refine tkQ 8 (s := by exact Stab.boolne rfl rfl (tysOk.get rfl) rfl) ?_); (refine TrA.done (by kernel_rfl) ?_))
   (refine rQ ?_)
   (refine dnQ (hL := by exact ⟨[], rfl⟩) ⟨rfl, ?_⟩)
   exact ⟨⟨false, rfl, by simp; intro h; rw [h, hy] at hx; cases hx; exact hxy rfl⟩, rfl⟩
  ·(refine rQ ?_)
   (((apply Tr.draw); (kernel_rfl)); (refine tkQ 0 (hB := by exact fun _ h => h) (s := by exact Stab.move rfl) ?_); (refine tkQ 1 (s := by exact Stab.move rfl) ?_); (refine tkQ 4 (s := by exact Stab.move rfl) ?_); (refine tkQ 5 (s := by exact Stab.move rfl) ?_); (refine tkQ 2 (s := by exact sxQ) ?_); (refine tkQ 6 (s := by exact sxQ) ?_); (refine tkQ 3 (s := by exact sMQ) ?_); (refine tkQ 7 (s := by exact sMQ) ?_); (refine tkQ 8 (s := by exact Stab.boolne rfl rfl (tysOk.get rfl) rfl) ?_); (refine TrA.done (by kernel_rfl) ?_))
   (refine rQ ?_)
   refine Tr.again (i + 1) ⟨by omega, by rw [List.take_add_one, List.take_add_one, hx, hy, heq, Classical.not_not.1 hxy]⟩ (by omega) hsQ
 ·have e : i = p.length := by omega
  subst e
  rw [List.take_length, hl, List.take_length] at heq
  (refine rQ ?_)
  (refine dnQ (hL := by exact ⟨[], rfl⟩) ⟨rfl, ?_⟩)
  exact ⟨⟨true, rfl, by simpa using heq⟩, rfl⟩
theorem sameRows1_fn (M : Mem) (p q : List Bool) (A B : Option Addr) (c k : Nat) (hp : Bools M (.slice A p.length c) p) (hq : Bools M (.slice B q.length k) q) : Fn0 Tryz.prog 114 [.slice A p.length c, .slice B q.length k] M (fun r M' => (∃ b : Bool, r = .bool b ∧ (b = true ↔ p = q)) ∧ M = M') := by
 refine Fn.intro Tryz.func114 rfl rfl Tryz.ntmps114 rfl fun E F => ?_
 (refine rQ ?_)
 ((refine Tr.step rfl ?_)); refine Exec.call0 rfl (equalBo_fn M p q A B c k hp hq) rfl ?_
 rintro _ _ _ ⟨⟨b, rfl, hb⟩, rfl⟩
 (refine rQ ?_)
 (refine dnQ (hL := by exact ⟨[], rfl⟩) ⟨rfl, ?_⟩)
 exact ⟨⟨b, rfl, hb⟩, rfl⟩
set_option maxHeartbeats 2000000 in
theorem equalRows_fn (M : Mem) (p q : List (List Bool)) (A B : Option Addr) (c k : Nat) (hp : Fits2 M (.slice A p.length c) p) (hq : Fits2 M (.slice B q.length k) q) : Fn0 Tryz.prog 113 [.slice A p.length c, .slice B q.length k, .func (.func 114) #[] #[]] M (fun r M' => (∃ b : Bool, r = .bool b ∧ (b = true ↔ p = q)) ∧ M = M') := by
 have l1 := hp.len_le
 have l2 := hq.len_le
 refine Fn.intro Tryz.func113 rfl rfl Tryz.ntmps113 rfl fun E F => ?_
 by_cases hl : p.length = q.length
 rotate_left
 ·(refine rQ ?_)
  (refine dnQ (hL := by exact ⟨[], rfl⟩) ⟨rfl, ?_⟩)
  exact ⟨⟨false, rfl, by simp; intro h; exact hl (congrArg _ h)⟩, rfl⟩
 (refine rQ ?_)
 refine Tr.loop (α := Nat) (fun i => ⟨32, [(17, .int .i64 (i : Int)), (16, .int .i64 p.length), (15, .slice A p.length c), (1, .slice B q.length k), (2, .func (.func 114) #[] #[])], [], M, [] ++ F⟩) (fun i => i ≤ p.length ∧ p.take i = q.take i) (fun i => p.length - i) 0 ⟨by simp, by simp⟩ hsQ (fun i hi => ?_)
 obtain ⟨hi, heq⟩ := hi
 by_cases hlt : i < p.length
 ·obtain ⟨x, hx⟩ := get_of_lt hlt
  obtain ⟨y, hy⟩ := get_of_lt (xs := q) (i := i) (by omega)
  obtain ⟨hA, ch, hat, B1, k1, rfl, hb1⟩ := hp.elem hx
  obtain ⟨hB, ch2, hbt, B2, k2, rfl, hb2⟩ := hq.elem hy
  (refine rQ ?_)
  ((refine Tr.step rfl ?_))
  refine Exec.callv (A := []) (first := []) (cap := []) rfl rfl (sameRows1_fn M x y B1 B2 k1 k2 hb1 hb2) (List.Perm.refl _) rfl ?_
  rintro _ _ _ _ ⟨rfl, ⟨b, rfl, hb⟩, rfl⟩
  cases b with
  | true =>
   (refine rQ ?_)
   refine Tr.again (i + 1) ⟨by omega, by rw [List.take_add_one, List.take_add_one, hx, hy, heq, hb.1 rfl]⟩ (by omega) hsQ
  | false =>
   (refine rQ ?_)
   (refine dnQ (hL := by exact ⟨[], rfl⟩) ⟨rfl, ?_⟩)
   exact ⟨⟨false, rfl, by simp; intro h; rw [h, hy] at hx; cases hx; exact absurd (hb.2 rfl) (by simp)⟩, rfl⟩
 ·have e : i = p.length := by omega
  subst e
  rw [List.take_length, hl, List.take_length] at heq
  (refine rQ ?_)
  (refine dnQ (hL := by exact ⟨[], rfl⟩) ⟨rfl, ?_⟩)
  exact ⟨⟨true, rfl, by simpa using heq⟩, rfl⟩
theorem sameRows_fn (M : Mem) (p q : List (List Bool)) (A B : Option Addr) (c k : Nat) (hp : Fits2 M (.slice A p.length c) p) (hq : Fits2 M (.slice B q.length k) q) : Fn0 Tryz.prog 83 [.slice A p.length c, .slice B q.length k] M (fun r M' => (∃ b : Bool, r = .bool b ∧ (b = true ↔ p = q)) ∧ M = M') := by
 refine Fn.intro Tryz.func83 rfl rfl Tryz.ntmps83 rfl fun E F => ?_
 (refine rQ ?_)
 ((refine Tr.step rfl ?_)); refine Exec.call0 rfl (equalRows_fn M p q A B c k hp hq) rfl ?_
 rintro _ _ _ ⟨⟨b, rfl, hb⟩, rfl⟩
 (refine rQ ?_)
 (refine dnQ (hL := by exact ⟨[], rfl⟩) ⟨rfl, ?_⟩)
 exact ⟨⟨b, rfl, hb⟩, rfl⟩
end Go.Proofs.YtlifjajcmnkhfaaGreat

/-
 Matching: the contract of without (a problem without some requests).
 Conditions: none.
-/
namespace Go.Proofs.YtlifjajcmnkhfaaGreat
open Go Bf
attribute [local irreducible] Tr Exec Stab HasTy Go.Addr.add IntKind.wrap
def keep {α : Type} (o : Nat → Bool) : List α → Nat → List α
 | [], _ => []
 | x :: l, i => if o i = true then keep o l (i + 1) else x :: keep o l (i + 1)
end Go.Proofs.YtlifjajcmnkhfaaGreat

/-
 Classes: the contract of Table.
 Conditions: none.
-/
namespace Go.Proofs.YtlifjajcmnkhfaaGreat
open Go Bf
attribute [local irreducible] Tr Exec Stab HasTy Go.Addr.add IntKind.wrap
theorem boW_elems (M : Mem) (l : List Bool) : Elems 1 RBo M (boV l) l := by
 refine ⟨by simp, fun i x hx => ?_⟩
 show _ = _
 rw [Nat.mul_one, List.take_one, List.head?_drop, boV_get hx]
 rfl
theorem boW_one (l : List Bool) : ∀ u ∈ boV l, u.oneCell' = true := by
 intro u hu
 simp only [boV, List.mem_map] at hu
 obtain ⟨x, _, rfl⟩ := hu
 rfl
def rdI (y : Rd) : List Int := [y.1.1, y.1.2.1, y.1.2.2, y.2.1, y.2.2]
theorem rdI_inj {a b : Rd} (h : ints (rdI a) = ints (rdI b)) : a = b := by
 have := ints_inj h
 obtain ⟨⟨a1, a2, a3⟩, a4, a5⟩ := a
 obtain ⟨⟨b1, b2, b3⟩, b4, b5⟩ := b
 simp only [rdI, List.cons.injEq, and_true] at this
 obtain ⟨rfl, rfl, rfl, rfl, rfl⟩ := this
 rfl
def MapRd (w : Wd) (known : Int) (es : List MapEntry) (l : List Rd) : Prop := KeysIn (IntsN 5) es ∧ ∀ y : Rd, valV (ints (rdI y)) es = if y ∈ l then some (.bool (refusedF w y known)) else none
theorem MapRd.nil (w : Wd) (known : Int) : MapRd w known [] [] := ⟨KeysIn.nil, fun y => by simp [valV, lookV]⟩
theorem MapRd.add {w : Wd} {known : Int} {es : List MapEntry} {l : List Rd} (h : MapRd w known es l) {y : Rd} (hy : y ∉ l) (cl : Nat) : MapRd w known (updV (ints (rdI y)) (.bool (refusedF w y known)) es cl).1 (addNew l y) := by
 classical
 refine ⟨updV_keys h.1 ⟨rdI y, rfl, rfl⟩, fun z => ?_⟩
 rw [updV_val, h.2 z]
 unfold addNew
 rw [if_neg hy]
 by_cases e : z = y
 ·subst e; simp
 ·have : ¬ ints (rdI z) = ints (rdI y) := fun h => e (rdI_inj h)
  simp [this, e]
def rdsI (w : Wd) (s : List Sp) (r : List Rq) (i : Nat) : List Rd := readsF w (s.take i) r
def rdsJ (w : Wd) (s : List Sp) (r : List Rq) (i : Nat) (x : Sp) (j : Nat) : List Rd := (looksR w x (r.take j)).foldl addNew (rdsI w s r i)
theorem rdsJ_no {w : Wd} {s : List Sp} {r : List Rq} {i j : Nat} {x : Sp} {y : Rq} (hy : r[j]? = some y) (hc : couldF w x y = false) : rdsJ w s r i x (j + 1) = rdsJ w s r i x j := by
 unfold rdsJ looksR
 rw [List.take_add_one, hy]
 simp [hc]
theorem rdsJ_yes {w : Wd} {s : List Sp} {r : List Rq} {i j : Nat} {x : Sp} {y : Rq} (hy : r[j]? = some y) (hc : couldF w x y = true) : rdsJ w s r i x (j + 1) = addNew (rdsJ w s r i x j) (lookF x y) := by
 unfold rdsJ looksR
 rw [List.take_add_one, hy]
 simp [hc, List.foldl_append]
theorem rdsJ_end {w : Wd} {s : List Sp} {r : List Rq} {i : Nat} {x : Sp} (hx : s[i]? = some x) : rdsI w s r (i + 1) = rdsJ w s r i x r.length := by
 unfold rdsI rdsJ readsF
 rw [List.take_add_one, hx, List.take_length]
 simp only [Option.toList_some, List.flatMap_append, List.flatMap_cons, List.flatMap_nil, List.append_nil, List.foldl_append]
 rfl
theorem addNew_len (l : List Rd) (y : Rd) : (addNew l y).length ≤ l.length + 1 := by
 unfold addNew
 split <;> simp
def TabR (w : Wd) (s : List Sp) (r : List Rq) (known : Int) (v : Value) (M : Mem) : Prop :=
 (¬ okT s r ∧ v = .tuple #[.slice none 0 0, .slice none 0 0, .int .i64 290]) ∨
 (okT s r ∧ ∃ A c B k, v = .tuple #[.slice A (fitsT w known s r).length c, .slice B (readsF w s r).length k, .int .i64 0] ∧ Fits2 M (.slice A (fitsT w known s r).length c) (fitsT w known s r) ∧ SlOf 5 RRd M (.slice B (readsF w s r).length k) (readsF w s r))
set_option maxHeartbeats 16000000 in
set_option maxRecDepth 20000 in
theorem table_fn (M : Mem) (ws : List Value) (w : Wd) (hw : RWd M ws w) (A1 A2 : Option Addr) (c1 c2 : Nat) (s : List Sp) (r : List Rq) (known : Int) (hs : SlOf 6 RSpC M (.slice A1 s.length c1) s) (hr : SlOf 6 RRqC M (.slice A2 r.length c2) r) :
  Fn0 Tryz.prog 22 [.agg ws.toArray, .slice A1 s.length c1, .slice A2 r.length c2, .int .i64 known] M (fun v M' => TabR w s r known v M') := by
 have hl1 := hs.len_le
 have hl2 := hr.len_le
 have h11 := hw.len
 have hKey : KeyOk Tryz.prog 104 (IntsN 5) := KeyOk.ofTy (tysOk.get rfl) rfl (by kernel_rfl)
 refine Fn.intro Tryz.func22 rfl rfl Tryz.ntmps22 rfl fun E F => ?_
 by_cases h1 : 64 < s.length
 ·(repeat (first | ((with_reducible refine Tr.step rfl ?_); (first | (refine xmQ ?_) | (refine xaQ ?_) | (refine xnQ ?_) | (refine xiQ ?_) | ((with_reducible refine Knd.pick ?_); (refine Exec.stab rfl (Stab.pick_td rfl (by omega) rfl) rfl ?_)) | ((with_reducible refine Knd.box ?_); (refine Exec.box rfl rfl (fun b => ?_))))) | (with_reducible first | apply Tr.next | apply Tr.seq | apply Tr.region | apply Tr.nil) | (refine Tr.guard_n' rfl rfl rfl (by first | (with_reducible assumption) | omega) rfl rfl ?_) | (with_reducible first | apply Tr.ret | apply Tr.then_ret) | (refine Tr.cond_bt rfl (by (with_reducible rfl)) ?_)))
  (refine dnQ (hL := by exact ⟨[_], rfl⟩) ⟨rfl, ?_⟩)
  exact .inl ⟨fun h => by have := h.1.1; omega, rfl⟩
 by_cases h2 : 64 < r.length
 ·(repeat (first | ((with_reducible refine Tr.step rfl ?_); (first | (refine xmQ ?_) | (refine xaQ ?_) | (refine xnQ ?_) | (refine xiQ ?_) | ((with_reducible refine Knd.pick ?_); (refine Exec.stab rfl (Stab.pick_fd rfl (by omega) rfl) rfl ?_)) | ((with_reducible refine Knd.box ?_); (refine Exec.box rfl rfl (fun b => ?_))))) | (with_reducible first | apply Tr.next | apply Tr.seq | apply Tr.region | apply Tr.nil) | ((refine Tr.guard_y' rfl rfl rfl (by first | (with_reducible assumption) | omega) ?_); (first | (refine xmQ ?_) | (refine xnQ ?_) | (refine xiQ ?_))) | (with_reducible first | apply Tr.ret | apply Tr.then_ret) | (refine Tr.cond_t rfl (by first | (with_reducible assumption) | omega) ?_)))
  (refine dnQ (hL := by exact ⟨[_], rfl⟩) ⟨rfl, ?_⟩)
  exact .inl ⟨fun h => by have := h.1.2; omega, rfl⟩
 (repeat (first | ((with_reducible refine Tr.step rfl ?_); (first | (refine xmQ ?_) | (refine xaQ ?_) | (refine xnQ ?_) | (refine xiQ ?_) | ((with_reducible refine Knd.pick ?_); (refine Exec.stab rfl (Stab.pick_fd rfl (by omega) rfl) rfl ?_)) | ((with_reducible refine Knd.box ?_); (refine Exec.box rfl rfl (fun b => ?_))))) | (with_reducible first | apply Tr.next | apply Tr.seq | apply Tr.region | apply Tr.nil) | ((refine Tr.guard_y' rfl rfl rfl (by first | (with_reducible assumption) | omega) ?_); (first | (refine xmQ ?_) | (refine xnQ ?_) | (refine xiQ ?_))) | (with_reducible refine Tr.skip ?_) | (refine Tr.cond_f rfl (by first | (with_reducible assumption) | omega) ?_)))
 generalize b = b4
 ((refine Tr.step rfl ?_)); refine Exec.call0 rfl (containsS_fn M A1 c1 s hs 52 [] (fun x => !decide (okSp x)) (fun x _ => table1_fn M x)) rfl ?_
 rintro _ _ _ ⟨rfl, rfl⟩
 by_cases h3 : ∀ x ∈ s, okSp x
 rotate_left
 ·have e : (s.any fun x => !decide (okSp x)) = true := by
   rw [List.any_eq_true]
   simpa using h3
  rw [e]
  (refine rQ ?_)
  (refine dnQ (hL := by exact ⟨[_], rfl⟩) ⟨rfl, ?_⟩)
  exact .inl ⟨fun h => h3 h.2.1, rfl⟩
 have e3 : (s.any fun x => !decide (okSp x)) = false := by
  rw [List.any_eq_false]
  intro x hx
  simp [h3 x hx]
 rw [e3]
 (refine rQ ?_)
 ((refine Tr.guard_l rfl rfl rfl (by (with_reducible rfl)) ?_)); refine Exec.call0 rfl (containsR_fn M A2 c2 r hr 55 [] (fun x => !decide (okRq x)) (fun x _ => table2_fn M x)) rfl ?_
 rintro _ _ _ ⟨rfl, rfl⟩
 by_cases h4 : ∀ x ∈ r, okRq x
 rotate_left
 ·have e : (r.any fun x => !decide (okRq x)) = true := by
   rw [List.any_eq_true]
   simpa using h4
  rw [e]
  (refine rQ ?_)
  (refine dnQ (hL := by exact ⟨[_], rfl⟩) ⟨rfl, ?_⟩)
  exact .inl ⟨fun h => h4 h.2.2, rfl⟩
 have e4 : (r.any fun x => !decide (okRq x)) = false := by
  rw [List.any_eq_false]
  intro x hx
  simp [h4 x hx]
 rw [e4]
 (repeat (first | ((with_reducible refine Tr.step rfl ?_); (first | (refine xmQ ?_) | (refine xaQ ?_) | (refine xnQ ?_) | ((with_reducible refine Knd.pick ?_); (refine Exec.stab rfl (Stab.pick_f rfl (by (with_reducible rfl)) rfl) rfl ?_)) | ((with_reducible refine Knd.makeMap ?_); (refine Exec.makeMap rfl (fun b => ?_))) | ((with_reducible refine Knd.makeSlice ?_); (refine Exec.make rfl rfl (tysOk.get rfl) rfl (tysOk.get rfl) rfl rfl rfl (by omega) (by omega) (by first | omega | (simp; done) | (simp; omega)) (by omega) rfl (fun b => ?_))))) | (with_reducible first | apply Tr.next | apply Tr.seq | apply Tr.region | apply Tr.nil | apply Tr.skip | apply Tr.block) | (refine Tr.cond_bf rfl (by (with_reducible rfl)) ?_)))
 simp only [Int.toNat_natCast]
 rename_i mb
 generalize b = bf
 refine Tr.own_nil 104 5 ?_
 refine Tr.loop (α := Nat × List Value × Mem × (List MapEntry × Nat) × (Option Addr × Nat)) (fun y => ⟨98, [(41, .int .i64 (y.1 : Int)), (40, .int .i64 (s.length : Int)), (39, .slice A1 s.length c1), (8, .slice (some ⟨bf, 0, none⟩) s.length s.length), (9, .slice y.2.2.2.2.1 (rdsI w s r y.1).length y.2.2.2.2.2), (12, .map (some mb)), (2, .slice A2 r.length c2), (3, .int .i64 known), (4, .pointer (some ⟨b4, 0, none⟩))], [], y.2.2.1, ownS 104 5 y.2.2.2.2.1 (rdsI w s r y.1).length y.2.2.2.2.2 ((rdsI w s r y.1).flatMap rdC) :: box bf 120 y.2.1 :: mapR mb y.2.2.2.1.1 y.2.2.2.1.2 :: box b4 38 ws :: F⟩)
  (fun y => y.1 ≤ s.length ∧ y.2.1.length = s.length ∧ Mem.le M y.2.2.1 ∧ Elems 1 RRowB y.2.2.1 (y.2.1.take y.1) (fitsT w known (s.take y.1) r) ∧ MapRd w known y.2.2.2.1.1 (rdsI w s r y.1) ∧ y.2.2.2.2.2 ≤ 9223372036854775807 ∧ (rdsI w s r y.1).length ≤ 64 * y.1) (fun y => s.length - y.1) (0, List.replicate s.length (.slice none 0 0), M, ([], 0), (none, 0)) ⟨Nat.zero_le _, by simp, Mem.le.refl _, Elems.nil, MapRd.nil w known, by simp, by simp [rdsI, readsF]⟩ hsQ (fun y hy => ?_)
 obtain ⟨i, cells, M1, ⟨es, cl⟩, Ar, cr⟩ := y
 obtain ⟨hi, hcl, hM, hel, hmap, hcr, hrl⟩ := hy
 simp only at hi hcl hM hel hmap hcr hrl
 dsimp only
 have hs1 := hs.mono RSpC.mono hM
 have hr1 := hr.mono RRqC.mono hM
 have hw1 := hw.mono hM
 by_cases hlt : i < s.length
 rotate_left
 ·have ei : i = s.length := by omega
  subst ei
  rw [List.take_of_length_le (by omega), List.take_length] at hel
  have e0 : rdsI w s r s.length = readsF w s r := by rw [rdsI, List.take_length]
  rw [e0] at hmap hrl ⊢
  (refine rQ ?_)
  refine pbQ (r := ownS 104 5 _ _ _ _) (fun M2 hm2 hok => ?_)
  refine pbQ (r := box bf _ _) (fun M3 hm3 hok2 => ?_)
  have hfl : (fitsT w known s r).length = s.length := by simp [fitsT]
  have hF : Fits2 M3 (.slice (some ⟨bf, 0, none⟩) (fitsT w known s r).length s.length) (fitsT w known s r) := SlOf.ofBoxC hok2 rfl (by rw [Nat.mul_one]; exact hcl) (by omega) (by omega) (by
   rw [hfl, Nat.mul_one, List.take_of_length_le (by omega)]
   intro u hu
   obtain ⟨j, hj, rfl⟩ := List.getElem_of_mem hu
   have hj2 : j < (fitsT w known s r).length := by omega
   obtain ⟨A, k, h, -⟩ := hel.2 j _ (List.getElem?_eq_getElem hj2)
   rw [Nat.mul_one, List.take_one, List.head?_drop, List.getElem?_eq_getElem hj] at h
   simp only [Option.toList_some, List.cons.injEq, and_true] at h
   rw [h]
   rfl) (by
   rw [hfl, Nat.mul_one, List.take_of_length_le (by omega)]
   exact hel.mono RRowB.mono (hm2.trans hm3))
  have hR : SlOf 5 RRd M3 (.slice Ar (readsF w s r).length cr) (readsF w s r) := (SlOf.ofOwn hok rfl hcr (rdC_elems _ _)).mono RRd.mono hm3
  have hmm := hM.trans (hm2.trans hm3)
  rw [← hfl]
  rw [← hfl] at hF
  (refine dnQ (hL := by exact ⟨[_, _], rfl⟩) ⟨rfl, ?_⟩)
  exact .inr ⟨⟨⟨by omega, by omega⟩, h3, h4⟩, _, _, _, _, rfl, hF, hR⟩
 obtain ⟨x, hx⟩ := get_of_lt hlt
 have hxo := h3 x (List.mem_of_getElem? hx)
 obtain ⟨hA, ch, hat, rfl⟩ := hs1.elem hx
 simp only [spC] at hat
 (repeat (first | ((with_reducible refine Tr.step rfl ?_); (first | (refine xmQ ?_) | (refine xaQ ?_) | ((with_reducible refine Knd.load ?_); (refine Exec.stab rfl (Stab.loadMA rfl (tysOk.get rfl) rfl (by assumption) (by first | rfl | assumption)) rfl ?_)) | (refine xnQ ?_) | (refine xiQ ?_) | ((with_reducible refine Knd.store ?_); (first | (refine xWQ ?_) | (refine Exec.storeS rfl rfl (tysOk.get rfl) rfl (by first | rfl | assumption) (by repeat (first | exact Upd.here | apply Upd.there)) (by omega) ?_))) | ((with_reducible refine Knd.alloc ?_); (refine Exec.alloc (tysOk.get rfl) rfl rfl (fun b => ?_))) | ((with_reducible refine Knd.indexAddr ?_); (first | (refine Exec.stab rfl (Stab.indexB0 rfl rfl (tysOk.get rfl) rfl (tysOk.get rfl) rfl (by omega) (by omega)) rfl ?_) | (refine xxQ ?_))) | ((with_reducible refine Knd.makeSlice ?_); (refine Exec.make rfl rfl (tysOk.get rfl) rfl (tysOk.get rfl) rfl rfl rfl (by omega) (by omega) (by first | omega | (simp; done) | (simp; omega)) (by omega) rfl (fun b => ?_))))) | (with_reducible first | apply Tr.next | apply Tr.seq | apply Tr.region | apply Tr.nil | apply Tr.skip | apply Tr.block) | (refine Tr.cond_t rfl (by first | (with_reducible assumption) | omega) ?_)))
 simp only [Int.toNat_natCast]
 rename_i b14
 generalize b = br
 refine ftQ (r := ownS 104 5 _ _ _ _) ?_
 refine Tr.loop (α := Nat × List Bool × (List MapEntry × Nat) × (Option Addr × Nat)) (fun y => ⟨98, [(54, .int .i64 (y.1 : Int)), (53, .int .i64 (r.length : Int)), (52, .slice A2 r.length c2), (9, .slice y.2.2.2.1 (rdsJ w s r i x y.1).length y.2.2.2.2), (13, .int .i64 (i : Int)), (14, .pointer (some ⟨b14, 0, none⟩)), (41, .int .i64 (i : Int)), (40, .int .i64 (s.length : Int)), (39, .slice A1 s.length c1), (8, .slice (some ⟨bf, 0, none⟩) s.length s.length), (12, .map (some mb)), (2, .slice A2 r.length c2), (3, .int .i64 known), (4, .pointer (some ⟨b4, 0, none⟩))], [], M1, ownS 104 5 y.2.2.2.1 (rdsJ w s r i x y.1).length y.2.2.2.2 ((rdsJ w s r i x y.1).flatMap rdC) :: box br 4 (boV y.2.1) :: box b14 73 [.int .i64 x.no, .int .i64 x.item, .int .i64 x.plant, .int .i64 x.ready, .int .i64 x.expiry, .int .i64 x.amount] :: box bf 120 (cells.set i (.slice (some ⟨br, 0, none⟩) r.length r.length)) :: mapR mb y.2.2.1.1 y.2.2.1.2 :: box b4 38 ws :: F⟩)
  (fun y => y.1 ≤ r.length ∧ y.2.1 = (r.take y.1).map (fitF w known x) ++ List.replicate (r.length - y.1) false ∧ MapRd w known y.2.2.1.1 (rdsJ w s r i x y.1) ∧ y.2.2.2.2 ≤ 9223372036854775807 ∧ (rdsJ w s r i x y.1).length ≤ 64 * i + y.1) (fun y => r.length - y.1) (0, List.replicate r.length false, (es, cl), (Ar, cr)) ⟨Nat.zero_le _, by simp, by simpa [rdsJ, looksR] using hmap, hcr, by simpa [rdsJ, looksR] using hrl⟩ (by simpa [rdsJ, looksR, boV] using (hsQ)) (fun y hy => ?_)
 obtain ⟨j, row, ⟨es2, cl2⟩, Ar2, cr2⟩ := y
 obtain ⟨hj, hrow, hmap2, hcr2, hrl2⟩ := hy
 simp only at hj hrow hmap2 hcr2 hrl2
 dsimp only
 have hrowl : row.length = r.length := by rw [hrow]; simp; omega
 by_cases hjlt : j < r.length
 rotate_left
 ·have ej : j = r.length := by omega
  subst ej
  rw [← rdsJ_end hx] at hmap2 hrl2 ⊢
  rw [Nat.sub_self, List.replicate_zero, List.append_nil, List.take_length] at hrow
  subst hrow
  (refine rQ ?_)
  refine pbQ (r := box br _ _) (fun M2 hm2 hok => ?_)
  have hB : Bools M2 (.slice (some ⟨br, 0, none⟩) (r.map (fitF w known x)).length r.length) (r.map (fitF w known x)) := SlOf.ofBoxC hok rfl (by simp) (by simp) (by omega) (fun u hu => boW_one _ u (List.mem_of_mem_take hu)) (by
   rw [Nat.mul_one, List.take_of_length_le (by simp)]
   exact boW_elems _ _)
  refine gvQ (r := box b14 _ _) ?_
  refine Tr.again (i + 1, cells.set i (.slice (some ⟨br, 0, none⟩) r.length r.length), M2, (es2, cl2), (Ar2, cr2)) ⟨by simp only; omega, by simpa using hcl, hM.trans hm2, ?_, hmap2, hcr2, by simp only; omega⟩ (by simp only; omega) hsQ
  simp only
  have e1 : (cells.set i (Value.slice (some ⟨br, 0, none⟩) r.length r.length)).take (i + 1) = cells.take i ++ [.slice (some ⟨br, 0, none⟩) r.length r.length] := by
   rw [List.take_add_one, List.getElem?_set_self (by omega), List.take_set_of_le (Nat.le_refl _)]
   rfl
  have e2 : fitsT w known (s.take (i + 1)) r = fitsT w known (s.take i) r ++ [r.map (fitF w known x)] := by
   unfold fitsT
   rw [List.take_add_one, hx]
   simp
  rw [e1, e2]
  refine (hel.mono RRowB.mono hm2).append (Elems.one rfl ⟨some ⟨br, 0, none⟩, r.length, ?_, hB⟩)
  rw [List.length_map]
 obtain ⟨y, hy⟩ := get_of_lt hjlt
 have hyo := h4 y (List.mem_of_getElem? hy)
 obtain ⟨hA2, ch2, hat2, rfl⟩ := hr1.elem hy
 simp only [rqC] at hat2
 have hbl : (boV row).length = r.length := by simp [hrowl]
 have hset : nthL (cells.set i (Value.slice (some ⟨br, 0, none⟩) r.length r.length)) i = some (.slice (some ⟨br, 0, none⟩) r.length r.length) := by
  rw [nthL_eq, List.getElem?_set_self (by omega)]
 have hrowset : ∀ v, row.set j v = (r.take j).map (fitF w known x) ++ v :: List.replicate (r.length - (j + 1)) false := fun v => by
  rw [hrow, List.set_append_right _ _ (by simp; omega), List.length_map, List.length_take, Nat.min_eq_left (by omega), Nat.sub_self, show r.length - j = (r.length - (j + 1)) + 1 by omega, List.replicate_succ, List.set_cons_zero]
 have htk : ∀ v, fitF w known x y = v → row.set j v = (r.take (j + 1)).map (fitF w known x) ++ List.replicate (r.length - (j + 1)) false := fun v hv => by
  rw [hrowset, List.take_add_one, hy, ← hv]
  simp
 (repeat (first | ((with_reducible refine Tr.step rfl ?_); (first | (refine xmQ ?_) | (refine xaQ ?_) | ((with_reducible refine Knd.load ?_); (first | (refine xwQ ?_) | (refine Exec.stab rfl (Stab.loadW rfl (tysOk.get rfl) rfl (by repeat (first | exact Has.here | apply Has.there)) (by assumption)) rfl ?_) | (refine Exec.stab rfl (Stab.loadMA rfl (tysOk.get rfl) rfl (by assumption) (by first | rfl | assumption)) rfl ?_))) | (refine xiQ ?_) | (refine xWQ ?_) | ((with_reducible refine Knd.alloc ?_); (refine Exec.alloc (tysOk.get rfl) rfl rfl (fun b => ?_))) | (refine xxQ ?_))) | (with_reducible first | apply Tr.next | apply Tr.seq | apply Tr.region | apply Tr.nil | apply Tr.skip | apply Tr.block) | (refine Tr.cond_t rfl (by first | (with_reducible assumption) | omega) ?_)))
 ((refine Tr.step rfl ?_)); refine Exec.call0 rfl (couldFit_fn M1 ws w hw1 x y hyo) rfl ?_
 rintro _ _ _ ⟨rfl, rfl⟩
 cases hc : couldF w x y with
 | false =>
  have hf : fitF w known x y = false := by rw [fitF, hc, Bool.false_and]
  have hrow2 : row = (r.take (j + 1)).map (fitF w known x) ++ List.replicate (r.length - (j + 1)) false := by
   rw [← htk false hf, hrowset, hrow, show r.length - j = (r.length - (j + 1)) + 1 by omega, List.replicate_succ]
  have hno := rdsJ_no (s := s) (i := i) hy hc
  rw [← hno] at hmap2 ⊢
  (refine rQ ?_)
  refine Tr.again (j + 1, row, (es2, cl2), (Ar2, cr2)) ⟨by simp only; omega, hrow2, hmap2, hcr2, by simp only; rw [hno]; omega⟩ (by simp only; omega) hsQ
 | true =>
  have hyes := rdsJ_yes (s := s) (i := i) hy hc
  (refine rQ ?_)
  ((refine Tr.step rfl ?_)); refine Exec.call0 rfl (look_fn M1 x y hyo) rfl ?_
  rintro _ _ _ ⟨rfl, rfl⟩
  (repeat (first | ((with_reducible refine Tr.step rfl ?_); (first | (refine xmQ ?_) | (refine xwQ ?_) | (refine xWQ ?_) | ((with_reducible refine Knd.alloc ?_); (refine Exec.alloc (tysOk.get rfl) rfl rfl (fun b => ?_))))) | (with_reducible first | apply Tr.next | apply Tr.seq | apply Tr.region | apply Tr.nil)))
  have hval := hmap2.2 (lookF x y)
  have hkey : ints (rdI (lookF x y)) = .agg #[.int .i64 7, .int .i64 y.cust, .int .i64 x.item, .int .i64 y.due, .int .i64 (y.due + 1)] := rfl
  rw [hkey] at hval
  refine Tr.step rfl ?_
  refine Exec.stab rfl (Stab.lookupV2 hKey rfl rfl (tysOk.get rfl) rfl (tysOk.get rfl) rfl (by repeat (first | exact Has.here | apply Has.there)) hmap2.1 ⟨rdI (lookF x y), rfl, rfl⟩) rfl ?_
  rw [hval]
  by_cases hin : lookF x y ∈ rdsJ w s r i x j
  ·rw [if_pos hin]
   simp only [Option.getD_some, Option.isSome_some]
   have hadd : addNew (rdsJ w s r i x j) (lookF x y) = rdsJ w s r i x j := by rw [addNew, if_pos hin]
   rw [hadd] at hyes
   have hf : fitF w known x y = !refusedF w (lookF x y) known := by rw [fitF, hc, Bool.true_and]
   rw [← hyes] at hmap2 ⊢
   cases hre : refusedF w (lookF x y) known
   all_goals
    rw [hre] at hf
    (repeat (first | ((with_reducible refine Tr.step rfl ?_); (first | (refine xmQ ?_) | (refine xaQ ?_) | ((with_reducible refine Knd.load ?_); (refine Exec.stab rfl (Stab.load rfl (tysOk.get rfl) rfl (by repeat (first | exact Has.here | apply Has.there)) (by assumption)) rfl ?_)) | (refine xdQ ?_) | ((with_reducible refine Knd.unOp ?_); (refine Exec.stab rfl (Stab.not rfl) rfl ?_)) | ((with_reducible refine Knd.store ?_); (refine Exec.storeS rfl rfl (tysOk.get rfl) rfl (by first | rfl | assumption) (by repeat (first | exact Upd.here | apply Upd.there)) (by omega) ?_)) | ((with_reducible refine Knd.extract ?_); (refine Exec.stab rfl (Stab.extract rfl rfl) rfl ?_)) | ((with_reducible refine Knd.indexAddr ?_); (refine Exec.stab rfl (Stab.indexB0 rfl rfl (tysOk.get rfl) rfl (tysOk.get rfl) rfl (by omega) (by omega)) rfl ?_)))) | (with_reducible first | apply Tr.next | apply Tr.seq | apply Tr.region | apply Tr.nil | apply Tr.skip | apply Tr.in_normal) | (refine Tr.cond_bf rfl (by first | (with_reducible rfl) | (with_reducible exact Bool.not_true)) ?_)))
    rw [boV_set]
    refine Tr.again (j + 1, row.set j _, (es2, cl2), (Ar2, cr2)) ⟨by simp only; omega, htk _ hf, hmap2, hcr2, by simp only; rw [hyes]; omega⟩ (by simp only; omega) hsQ
  ·rw [if_neg hin]
   simp only [Option.getD_none, Option.isSome_none]
   (repeat (first | ((with_reducible refine Tr.step rfl ?_); (first | (refine xmQ ?_) | (refine xaQ ?_) | ((with_reducible refine Knd.load ?_); (first | (refine xwQ ?_) | (refine Exec.stab rfl (Stab.loadW rfl (tysOk.get rfl) rfl (by repeat (first | exact Has.here | apply Has.there)) (by assumption)) rfl ?_))) | ((with_reducible refine Knd.unOp ?_); (refine Exec.stab rfl (Stab.not rfl) rfl ?_)) | ((with_reducible refine Knd.extract ?_); (refine Exec.stab rfl (Stab.extract rfl rfl) rfl ?_)))) | (with_reducible first | apply Tr.next | apply Tr.seq | apply Tr.region | apply Tr.nil) | (refine Tr.cond_bt rfl (by first | (with_reducible rfl) | (with_reducible exact Bool.not_false)) ?_)))
   ((refine Tr.step rfl ?_)); refine Exec.call0 rfl (refused_fn M1 ws w hw1 (lookF x y) known) rfl ?_
   rintro _ _ _ ⟨rfl, rfl⟩
   (refine rQ ?_)
   refine Tr.step rfl ?_
   refine Exec.mapUpdateV hKey rfl rfl rfl (tysOk.get rfl) rfl hmap2.1 ⟨rdI (lookF x y), rfl, rfl⟩ (by repeat (first | exact Upd.here | apply Upd.there)) ?_
   (repeat (first | ((with_reducible refine Tr.step rfl ?_); (first | (refine xmQ ?_) | (refine xwQ ?_) | ((with_reducible refine Knd.buildSlice ?_); (refine Exec.buildSlice (tysOk.get rfl) rfl (tysOk.get rfl) rfl rfl rfl rfl rfl (by repeat (first | exact BuildP.nil | ((apply BuildP.many); (rfl); (rfl); (rfl); (rfl); (repeat (first | exact PutL.nil | ((apply PutL.cons); (repeat (first | exact SetL.z | apply SetL.s)))))))) rfl (fun b => ?_))))) | (with_reducible first | apply Tr.next | apply Tr.region | apply Tr.nil)))
   ((refine Tr.step rfl ?_))
   refine Exec.append (news := rdC (lookF x y)) rfl rfl (tysOk.get rfl) rfl (tysOk.get rfl) rfl rfl rfl rfl (by repeat (first | exact Del.here | apply Del.there)) (Src.box (by repeat (first | exact Has.here | apply Has.there))) rfl (rdC_one _) (by omega) (by omega) rfl (fun A6 c6 hc6 => ?_)
   refine gvQ (r := box _ 104 _) ?_
   have hadd : addNew (rdsJ w s r i x j) (lookF x y) = rdsJ w s r i x j ++ [lookF x y] := by rw [addNew, if_neg hin]
   have hm3 := hmap2.add hin cl2
   have hfl : (rdsJ w s r i x j).flatMap rdC ++ rdC (lookF x y) = (addNew (rdsJ w s r i x j) (lookF x y)).flatMap rdC := by rw [hadd, List.flatMap_append]; simp
   have hln : (rdsJ w s r i x j).length + 1 = (addNew (rdsJ w s r i x j) (lookF x y)).length := by rw [hadd]; simp
   have hf : fitF w known x y = !refusedF w (lookF x y) known := by rw [fitF, hc, Bool.true_and]
   rw [hfl, hln]
   cases hre : refusedF w (lookF x y) known
   all_goals
    rw [hre] at hf hm3
    (repeat (first | ((with_reducible refine Tr.step rfl ?_); (first | (refine xmQ ?_) | (refine xaQ ?_) | ((with_reducible refine Knd.load ?_); (refine Exec.stab rfl (Stab.load rfl (tysOk.get rfl) rfl (by repeat (first | exact Has.here | apply Has.there)) (by assumption)) rfl ?_)) | (refine xdQ ?_) | ((with_reducible refine Knd.unOp ?_); (refine Exec.stab rfl (Stab.not rfl) rfl ?_)) | ((with_reducible refine Knd.store ?_); (refine Exec.storeS rfl rfl (tysOk.get rfl) rfl (by first | rfl | assumption) (by repeat (first | exact Upd.here | apply Upd.there)) (by omega) ?_)) | ((with_reducible refine Knd.indexAddr ?_); (refine Exec.stab rfl (Stab.indexB0 rfl rfl (tysOk.get rfl) rfl (tysOk.get rfl) rfl (by omega) (by omega)) rfl ?_)))) | (with_reducible first | apply Tr.next | apply Tr.region | apply Tr.nil | apply Tr.in_normal)))
    rw [boV_set]
    refine gvQ (r := box _ 104 _) ?_
    refine gvQ (r := box _ 46 _) ?_
    refine Tr.again (j + 1, row.set j _, ((updV _ _ es2 cl2).1, (updV _ _ es2 cl2).2), (A6, c6)) ⟨by simp only; omega, htk _ hf, by rw [hyes]; exact hm3, hc6, by simp only; rw [hyes, ← hln]; omega⟩ (by simp only; omega) (by rw [hyes]; exact hsQ)
end Go.Proofs.YtlifjajcmnkhfaaGreat

/-
 Promises: books that are made of a list of requests, and whether they can be kept, plain.
 Conditions: none.
-/
namespace Go.Proofs.YtlifjajcmnkhfaaGreat
open Go Bf
def amS (s : List Sp) : List Int := s.map (·.amount)
def amR (r : List Rq) : List Int := r.map (·.amount)
def pbW (w : Wd) (known : Int) (s : List Sp) (r : List Rq) : Pb := pbOf (fitsT w known s r) (amS s) (amR r)
theorem fitsT_get {w : Wd} {known : Int} {s : List Sp} {r : List Rq} {i j : Nat} {x : Sp} {y : Rq} (hx : s[i]? = some x) (hy : r[j]? = some y) : ((fitsT w known s r).getD i []).getD j false = fitF w known x y := by
 simp [fitsT, List.getD_eq_getElem?_getD, hx, hy]
theorem okT_vld {w : Wd} {known : Int} {s : List Sp} {r : List Rq} (h : okT s r) : Vld (fitsT w known s r) (amS s) (amR r) := by
 obtain ⟨⟨h1, h2⟩, h3, h4⟩ := h
 refine ⟨by simpa [amS] using h1, by simpa [amR] using h2, by simp [fitsT, amS], ?_, ?_, ?_⟩
 ·intro x hx
  simp only [fitsT, List.mem_map] at hx
  obtain ⟨y, _, rfl⟩ := hx
  simp [amR]
 ·intro x hx
  simp only [amS, List.mem_map] at hx
  obtain ⟨y, hy, rfl⟩ := hx
  exact (h3 y hy).2.2.2.2.2
 ·intro x hx
  simp only [amR, List.mem_map] at hx
  obtain ⟨y, hy, rfl⟩ := hx
  exact (h4 y hy).2.2.2.2.2
theorem feasW_nil (w : Wd) (known : Int) (s : List Sp) (hs : ∀ x ∈ s, okSp x) : Feas (pbW w known s []) := by
 refine feas_part.2 ⟨fun _ _ => 0, fun k hk b hb => Int.le_refl _, fun k hk b hb h => absurd rfl h, fun k hk => ?_, fun b hb => ?_⟩
 ·obtain ⟨x, hx⟩ := get_of_lt (xs := s) (i := k) (by simpa [pbW, pbOf, amS] using hk)
  have := (hs x (List.mem_of_getElem? hx)).2.2.2.2.2.1
  show (0 : Int) ≤ (amS s).getD k 0
  simp [amS, List.getD_eq_getElem?_getD, hx, this]
 ·simp [pbW, pbOf, amR] at hb
theorem okT_app {s : List Sp} {r : List Rq} {x : Rq} (h : okT s r) : okT s (r ++ [x]) ↔ okRq x ∧ r.length + 1 ≤ 64 := by
 constructor
 ·intro h2
  exact ⟨h2.2.2 x (by simp), by simpa using h2.1.2⟩
 ·rintro ⟨h1, h2⟩
  exact ⟨⟨h.1.1, by simpa using h2⟩, h.2.1, fun y hy => by
   rcases List.mem_append.1 hy with h3 | h3
   ·exact h.2.2 y h3
   ·simp at h3; subst h3; exact h1⟩
theorem okB_mk {w : Wd} {b : Bp} {r : List Rq} (hn : (r.map (·.no)).Nodup) (hs : (b.sups.map (·.no)).Nodup) (ht : okT b.sups r) (hf : Feas (pbW w b.known b.sups r)) : okB w (mkF w b r) := ⟨⟨hn, hs⟩, ht, ⟨rfl, rfl⟩, hf⟩
theorem okB_new {w : Wd} {known : Int} {s : List Sp} (ht : okT s []) (hs : (s.map (·.no)).Nodup) : okB w (mkF w ⟨known, s, [], [], []⟩ []) := okB_mk List.nodup_nil hs ht (feasW_nil w known s ht.2.1)
theorem okB_more {w : Wd} {b : Bp} {r : Rq} (h : okB w b) (hno : r.no ∉ b.reqs.map (·.no)) (hr : okRq r) (hl : b.reqs.length + 1 ≤ 64) (hf : Feas (pbW w b.known b.sups (b.reqs ++ [r]))) : okB w (more w b r) := by
 refine okB_mk ?_ h.1.2 ((okT_app h.2.1).2 ⟨hr, hl⟩) hf
 rw [List.map_append, List.nodup_append]
 refine ⟨h.1.1, by simp, fun x hx y hy => ?_⟩
 simp at hy
 subst hy
 exact fun e => hno (e ▸ hx)
end Go.Proofs.YtlifjajcmnkhfaaGreat

/-
 Matching: the contract of Flow.
 Conditions: none.
-/
namespace Go.Proofs.YtlifjajcmnkhfaaGreat
open Go Bf
attribute [local irreducible] Tr Exec Stab HasTy Go.Addr.add IntKind.wrap
set_option maxHeartbeats 8000000 in
set_option maxRecDepth 20000 in
theorem flow_fn (M : Mem) (A0 A1 A2 : Option Addr) (c0 c1 c2 : Nat) (fits : List (List Bool)) (sup need : List Int) (hf : Fits2 M (.slice A0 fits.length c0) fits) (hs : Ints M (.slice A1 sup.length c1) sup) (hn : Ints M (.slice A2 need.length c2) need) (rs : I64s sup) (rn : I64s need) :
  Fn0 Tryz.prog 38 [.slice A0 fits.length c0, .slice A1 sup.length c1, .slice A2 need.length c2] M (fun r M' => FlowR fits sup need r M') := by
 refine Fn.intro Tryz.func38 rfl rfl Tryz.ntmps38 rfl fun E F => ?_
 refine rQ ?_
 ((refine Tr.step rfl ?_)); refine Exec.call0 rfl (valid_fn M A0 A1 A2 c0 c1 c2 fits sup need hf hs hn rs rn) rfl ?_
 rintro _ _ _ ⟨rfl, rfl⟩
 cases hvv : validF fits sup need
 ·refine rQ ?_
  (refine dnQ (hL := by exact ⟨[], rfl⟩) ⟨rfl, ?_⟩)
  exact .inl ⟨hvv, rfl⟩
 have hv := vld_iff.1 hvv
 have l1 := hv.ls
 have l2 := hv.ln
 have l3 := hv.lf
 refine rQ ?_
 ((refine Tr.step rfl ?_))
 refine Exec.call (A := []) rfl (begin_fn M A0 fits.length c0 A1 A2 c1 c2 sup need hs hn hv.ls hv.ln) (List.Perm.refl _) rfl ?_
 rintro _ _ _ _ ⟨o, rws0, rfl, ho, ho1, ho2, hrw, rfl, rfl⟩
 refine rQ ?_
 ((refine Tr.step rfl ?_))
 refine Exec.call (A := stL o (need.length + 1) rws0 need (List.replicate 64 0) (List.replicate 65 0)) rfl (fill_fn M o A0 c0 fits sup need hv hf ho ho1 ho2 _ rws0 need _ _ (begin_shape hrw) rfl (begin_flow hv hrw) (by simp) (by simp)) (List.Perm.refl _) rfl ?_
 rintro _ _ _ _ ⟨rfl, rws, lack, tk, gv, rfl, hsh, hll, ltk, lgv, hfi⟩
 generalize rws0.map (·.1) = bs at hsh
 have hlk := lack_rng hv hll hfi.1
 have hL := hfi.isLack
 have hL0 := hL.zero hv.sup0 hv.need0
 have hls := sumN_list lack
 rw [hll] at hls
 rw [← hls] at hL hL0
 have r1 := sum_rng (by omega) hlk
 simp only [stL, List.cons_append, List.nil_append]
 refine rQ ?_
 refine own_cap o.Al (by repeat (first | exact Has.here | apply Has.there)) (fun hA1 hA2 => ?_)
 ((refine Tr.step rfl ?_))
 refine Exec.call (A := [ownS 3 1 o.Al lack.length o.cl (intV lack)]) (F := box o.sb 140 _ :: ownS 32 1 o.Am _ _ _ :: rowsR rws :: F) rfl (sum_fn M [ownS 3 1 o.Al lack.length o.cl (intV lack)] o.Al o.cl lack hA1 (fun h => by
  cases hAl : o.Al with
  | none => exact absurd (List.eq_nil_of_length_eq_zero (hA2 hAl)) h
  | some a => rfl) (Src.own .here) (small_of (by omega) hlk)) (List.perm_middle (l₁ := [_, _, _])).symm rfl ?_
 rintro _ _ _ _ ⟨rfl, rfl, rfl⟩
 by_cases hs0 : 0 < lack.sum
 ·refine rQ ?_
  ((refine Tr.step rfl ?_)); refine Exec.call0 rfl (cutOf_fn M A0 A1 A2 c0 c1 c2 fits sup need hf hs hn hv) rfl ?_
  rintro _ M2 hm2 ⟨B, k, rfl, hI⟩
  refine rQ ?_
  (refine dnQ (hL := by exact ⟨[_, _, _, _], rfl⟩) ⟨rfl, ?_⟩)
  exact .inr (.inl ⟨hv, fun h => by have := hL0.2 h; omega, B, k, rfl, hI⟩)
 have hz : lack.sum = 0 := by omega
 have hfl : Bf.Flow (pbOf fits sup need) (amt rws) fun _ => 0 := hfi.1.zero (hls.symm.trans hz)
 refine rQ ?_
 simp only [List.cons_append, List.nil_append]
 refine ftQ (r := rowsR _) ?_
 refine ftQ (r := ownS 32 1 _ _ _ _) ?_
 refine ftQ (r := box o.sb 140 _) ?_
 refine Tr.own_nil 32 1 ?_
 refine Tr.loop (α := Nat × List (Nat × List Int) × List Int × List Int × Mem × Option Addr × Nat × List Value) (fun y => ⟨72, [(36, .int .i64 (y.1 : Int)), (35, .int .i64 (sup.length : Int)), (6, .slice y.2.2.2.2.2.1 y.1 y.2.2.2.2.2.2.1), (10, .pointer (some ⟨o.sb, 0, none⟩)), (0, .slice A0 fits.length c0), (2, .slice A2 need.length c2)], [], y.2.2.2.2.1, ownS 32 1 y.2.2.2.2.2.1 y.1 y.2.2.2.2.2.2.1 y.2.2.2.2.2.2.2 :: (stL o (need.length + 1) y.2.1 lack y.2.2.1 y.2.2.2.1 ++ F)⟩)
  (fun y => y.1 ≤ sup.length ∧ Shape sup.length need.length bs y.2.1 ∧ y.2.2.1.length = 64 ∧ y.2.2.2.1.length = 65 ∧ (Bf.Flow (pbOf fits sup need) (amt y.2.1) fun _ => 0) ∧ LexTo (pbOf fits sup need) (amt y.2.1) y.1 0 ∧ Mem.le M y.2.2.2.2.1 ∧ y.2.2.2.2.2.2.1 ≤ 9223372036854775807 ∧ Elems 1 RRowI y.2.2.2.2.1 y.2.2.2.2.2.2.2 (allocOf (amt y.2.1) need.length y.1)) (fun y => sup.length - y.1) (0, rws, tk, gv, M, none, 0, []) ⟨Nat.zero_le _, hsh, ltk, lgv, hfl, LexTo.start _ _, Mem.le.refl _, by simp, Elems.nil⟩ hsQ (fun y hy => ?_)
 clear hsh ltk lgv hfl hfi hL hL0 hls hs0
 clear rws tk gv
 obtain ⟨i, rws, tk, gv, M1, A6, c6, cells⟩ := y
 obtain ⟨hi, hsh, ltk, lgv, hfl, hlex, hM, hc6, hel⟩ := hy
 simp only at hi hsh ltk lgv hfl hlex hM hc6 hel
 dsimp only
 have hcl : cells.length = i := by have := hel.1; simpa using this
 simp only [stL, List.cons_append, List.nil_append]
 by_cases hin : i < sup.length
 rotate_left
 ·have ei : i = sup.length := by omega
  subst ei
  refine rQ ?_
  refine pbQ (r := ownS 32 1 A6 _ _ _) (fun M2 hm2 hok => ?_)
  have hfin := hM.trans hm2
  have hI : Ints2 M2 (.slice A6 (allocOf (amt rws) need.length sup.length).length c6) (allocOf (amt rws) need.length sup.length) := SlOf.ofOwn hok (by simp) hc6 (hel.mono RRowI.mono hm2)
  (refine dnQ (hL := by exact ⟨[_, _, _, _], rfl⟩) ⟨rfl, ?_⟩)
  exact .inr (.inr ⟨hv, amt rws, LexTo.max hlex hfl, A6, c6, by simp only [allocOf_length]; rfl, hI⟩)
 obtain ⟨frow, hfr⟩ := get_of_lt (xs := fits) (i := i) (by omega)
 have hfrl := hv.rows frow (List.mem_of_getElem? hfr)
 have hf1 : Fits2 M1 (.slice A0 fits.length c0) fits := hf.mono RRowB.mono hM
 obtain ⟨hA0, fch, fat, fB, fk, rfl, hfB⟩ := hf1.elem hfr
 refine rQ ?_
 refine Tr.loop (α := Nat × List (Nat × List Int) × List Int × List Int) (fun y => ⟨72, [(41, .int .i64 (y.1 : Int)), (40, .int .i64 (need.length : Int)), (11, .int .i64 (i : Int)), (36, .int .i64 (i : Int)), (35, .int .i64 (sup.length : Int)), (6, .slice A6 i c6), (10, .pointer (some ⟨o.sb, 0, none⟩)), (0, .slice A0 fits.length c0), (2, .slice A2 need.length c2)], [], M1, ownS 32 1 A6 i c6 cells :: (stL o (need.length + 1) y.2.1 lack y.2.2.1 y.2.2.2 ++ F)⟩)
  (fun y => y.1 ≤ need.length ∧ Shape sup.length need.length bs y.2.1 ∧ y.2.2.1.length = 64 ∧ y.2.2.2.length = 65 ∧ (Bf.Flow (pbOf fits sup need) (amt y.2.1) fun _ => 0) ∧ LexTo (pbOf fits sup need) (amt y.2.1) i y.1 ∧ Elems 1 RRowI M1 cells (allocOf (amt y.2.1) need.length i)) (fun y => need.length - y.1) (0, rws, tk, gv) ⟨Nat.zero_le _, hsh, ltk, lgv, hfl, hlex, hel⟩ hsQ (fun y hy => ?_)
 clear hsh ltk lgv hfl hlex hel
 obtain ⟨j, rws, tk, gv⟩ := y
 obtain ⟨hj, hsh, ltk, lgv, hfl, hlex, hel⟩ := hy
 simp only at hj hsh ltk lgv hfl hlex hel
 dsimp only
 simp only [stL, List.cons_append, List.nil_append]
 by_cases hjn : j < need.length
 ·obtain ⟨x, hx⟩ := get_of_lt (xs := frow) (i := j) (by omega)
  obtain ⟨hA, hat⟩ := hfB.at hx
  have hfx : (fits.getD i []).getD j false = x := by rw [getD_of (d := []) hfr, getD_of (d := false) hx]
  cases x
  ·refine rQ ?_
   refine Tr.again (j + 1, rws, tk, gv) ⟨by simp only; omega, hsh, ltk, lgv, hfl, hlex.skip hfl hin hjn hfx, hel⟩ (by simp only; omega) hsQ
  ·refine rQ ?_
   ((refine Tr.step rfl ?_))
   refine Exec.call (A := stL o (need.length + 1) rws lack tk gv) (F := ownS 32 1 A6 i c6 cells :: F) rfl (raise_fn M1 o A0 c0 fits sup need hv hf1 ho ho1 ho2 bs rws lack tk gv hsh hll hfl ltk lgv i j hin hjn hfx) (List.perm_middle (l₁ := [_, _, _, _])) rfl ?_
   rintro _ _ _ _ ⟨rfl, rws', tk', gv', rfl, hsh', ltk', lgv', hra, htop⟩
   have hco : allocOf (amt rws') need.length i = allocOf (amt rws) need.length i := allocOf_congr fun k hk c _ => by rw [hra.2.1 k hk]
   refine rQ ?_
   refine ftQ (r := ownS 32 1 A6 _ _ _) ?_
   refine Tr.again (j + 1, rws', tk', gv') ⟨by simp only; omega, hsh', ltk', lgv', hra.1, hlex.step hra htop hin hjn, by simp only [hco]; exact hel⟩ (by simp only; omega) hsQ
 have ej : j = need.length := by omega
 subst ej
 obtain ⟨⟨bi, row⟩, hr0⟩ := get_of_lt (xs := rws) (i := i) (by rw [hsh.n]; exact hin)
 have hrl : row.length = need.length + 1 := hsh.row _ (List.mem_of_getElem? hr0)
 have hp' : (ptrV (need.length + 1) rws)[i]? = some (.slice (some ⟨bi, 0, none⟩) (need.length + 1) (need.length + 1)) := by simp [ptrV, hr0]
 have hn' := hsh.n
 refine Tr.own_some o.Am (by repeat (first | exact Has.here | apply Has.there)) (by omega) (fun hAm => ?_)
 unfold rowsR
 refine Tr.many_out (by repeat (first | exact Del.here | apply Del.there)) (rows_get hr0) ?_
 repeat (first | ((with_reducible refine Tr.step rfl ?_); (first | (refine xmQ ?_) | ((with_reducible refine Knd.load ?_); (first | (refine xlQ ?_) | (refine Exec.stab rfl (Stab.loadO rfl (tysOk.get rfl) rfl (by repeat (first | exact Has.here | apply Has.there)) (by assumption)) rfl ?_))) | (refine xfQ ?_) | (refine xnQ ?_) | ((with_reducible refine Knd.nilCheck ?_); (refine Exec.stab rfl (Stab.nilCheck rfl) rfl ?_)) | (refine xiQ ?_) | (refine xxQ ?_) | ((with_reducible refine Knd.slice ?_); ((refine Exec.stab rfl (Stab.slice_h rfl rfl (tysOk.get rfl) rfl (tysOk.get rfl) (by omega) (by omega)) rfl ?_))))) | (with_reducible first | apply Tr.next | apply Tr.seq | apply Tr.region | apply Tr.nil | apply Tr.exit | apply Tr.then_exit) | ((with_reducible refine Tr.in_exit ?_ ?_); (exact rfl)) | (refine Tr.cond_f rfl (by first | (with_reducible assumption) | (with_reducible rfl) | (with_reducible exact (not_not_intro rfl)) | omega) ?_))
 rw [show ((need.length : Int)).toNat = (row.take need.length).length by simp; omega]
 have htk : row.take need.length = rowOf (amt rws) need.length i := row_take hr0 hrl
 have htl : (row.take need.length).length = need.length := by simp; omega
 have hcln := clone_lend M1 bi need.length row hrl l2
 ((refine Tr.step rfl ?_))
 refine Exec.call (A := [box bi 3 (intV row)]) rfl hcln (List.Perm.refl _) rfl ?_
 rintro _ _ _ _ ⟨A1, rfl, rfl, B, k, rfl, hk, rfl⟩
 simp only [List.cons_append, List.nil_append]
 refine pbQ (r := ownS 3 1 B _ _ _) (fun M2 hm2 hok => ?_)
 have hI : Ints M2 (.slice B (row.take need.length).length k) (row.take need.length) := Ints.ofOwn hok rfl hk
 refine Tr.many_in (rows_get hr0) ?_
 rw [rows_set, set_same hr0]
 refine ftQ (r := ownS 32 1 o.Am _ _ _) ?_
 refine ftQ (r := box o.sb 140 _) ?_
 repeat (((with_reducible refine Tr.step rfl ?_); (((with_reducible refine Knd.buildSlice ?_); ((refine Exec.buildSlice (tysOk.get rfl) rfl (tysOk.get rfl) rfl rfl rfl rfl rfl (by repeat (first | exact BuildP.nil | ((apply BuildP.one); (rfl); (rfl); (first | rfl | assumption); (repeat (first | exact SetL.z | apply SetL.s))))) rfl (fun b => ?_)))))))
 refine Tr.cells (cs' := [.slice B (row.take need.length).length k]) (by repeat (first | exact Upd.here | apply Upd.there)) rfl ?_
 ((refine Tr.step rfl ?_))
 refine Exec.append (A := A6) (news := [.slice B (row.take need.length).length k]) rfl rfl (tysOk.get rfl) rfl (tysOk.get rfl) rfl rfl rfl rfl (by repeat (first | exact Del.here | apply Del.there)) (Src.box (by repeat (first | exact Has.here | apply Has.there))) rfl (by intro u hu; simp at hu; subst hu; rfl) (by omega) (by omega) rfl (fun A7 c7 hc7 => ?_)
 have hel2 : Elems 1 RRowI M2 (cells ++ [.slice B (row.take need.length).length k]) (allocOf (amt rws) need.length (i + 1)) := by
  rw [allocOf_succ, ← htk]
  exact (hel.mono RRowI.mono hm2).append (Elems.one rfl ⟨B, k, rfl, hI⟩)
 refine rQ ?_
 refine gvQ (r := box _ 32 [_]) ?_

 refine Tr.again (i + 1, rws, tk, gv, M2, A7, c7, cells ++ [.slice B (row.take need.length).length k]) ⟨by simp only; omega, hsh, ltk, lgv, hfl, hlex.row (Nat.le_refl _), hM.trans hm2, hc7, hel2⟩ (by simp only; omega) hsQ
end Go.Proofs.YtlifjajcmnkhfaaGreat

/-
 Promises: require, must, twins, amounts and possible.
 Conditions: none.
-/
namespace Go.Proofs.YtlifjajcmnkhfaaGreat
open Go Bf
attribute [local irreducible] Tr Exec Stab HasTy Go.Addr.add IntKind.wrap
def RBp (M : Mem) (v : Value) (k : Bp) : Prop := ∃ As cs Ar cr Af cf Ad cd, v = .agg #[.int .i64 k.known, .slice As k.sups.length cs, .slice Ar k.reqs.length cr, .slice Af k.fits.length cf, .slice Ad k.rds.length cd] ∧
 SlOf 6 RSpC M (.slice As k.sups.length cs) k.sups ∧ SlOf 6 RRqC M (.slice Ar k.reqs.length cr) k.reqs ∧ Fits2 M (.slice Af k.fits.length cf) k.fits ∧ SlOf 5 RRd M (.slice Ad k.rds.length cd) k.rds
theorem RBp.mono {M M' : Mem} {v : Value} {k : Bp} (h : RBp M v k) (hm : Mem.le M M') : RBp M' v k := by
 obtain ⟨As, cs, Ar, cr, Af, cf, Ad, cd, rfl, h1, h2, h3, h4⟩ := h
 exact ⟨As, cs, Ar, cr, Af, cf, Ad, cd, rfl, h1.mono RSpC.mono hm, h2.mono RRqC.mono hm, h3.mono RRowB.mono hm, h4.mono RRd.mono hm⟩
theorem RBp.zero (M : Mem) : RBp M (.agg #[.int .i64 0, .slice none 0 0, .slice none 0 0, .slice none 0 0, .slice none 0 0]) zP := ⟨none, 0, none, 0, none, 0, none, 0, rfl, SlOf.nil _ _ _, SlOf.nil _ _ _, SlOf.nil _ _ _, SlOf.nil _ _ _⟩
def prCh (e : Int) : List PanicEntry := [{ v := .iface 49 (.int .i64 e), recovered := false }]
theorem prequire_y (M : Mem) : Fn0 Tryz.prog 82 [.bool true] M (fun _ M' => M = M') := by
 refine Fn.intro Tryz.func82 rfl rfl Tryz.ntmps82 rfl fun E F => ?_
 (refine rQ ?_)
 (refine Tr.done (by first | exact .inl rfl | exact .inr rfl) rfl (by repeat (exact RVs.nil)) (by first | exact Mem.le.refl _ | assumption) (by exact ⟨[], rfl⟩) ⟨rfl, ?_⟩)
 rfl
theorem prequire_n (M : Mem) : FnP Tryz.prog 82 [.bool false] M [] (fun _ _ _ => False) (fun ch M' A' => ch = prCh 310 ∧ A' = [] ∧ M = M') := by
 refine FnP.intro Tryz.func82 rfl rfl Tryz.ntmps82 rfl fun E F => ?_
 (repeat (first | ((with_reducible refine Tr.step rfl ?_); (first | (refine xmQ ?_) | ((with_reducible refine Knd.makeInterface ?_); (refine Exec.stab rfl (Stab.makeIface rfl (by kernel_rfl)) rfl ?_)) | ((with_reducible refine Knd.panic ?_); (refine Exec.panic rfl ?_)) | ((with_reducible refine Knd.unOp ?_); (refine Exec.stab rfl (Stab.not rfl) rfl ?_)))) | (with_reducible first | apply Tr.next | apply Tr.seq | apply Tr.region | apply Tr.nil) | (refine Tr.cond_bt rfl (by first | (with_reducible rfl) | (with_reducible exact Bool.not_false)) ?_)))
 exact Tr.doneP (A' := []) (Mem.le.refl _) (by repeat (first | exact DropL.refl | apply DropL.skip)) ⟨rfl, rfl, rfl⟩
theorem must_y (M : Mem) : Fn0 Tryz.prog 87 [.int .i64 0] M (fun _ M' => M = M') := by
 refine Fn.intro Tryz.func87 rfl rfl Tryz.ntmps87 rfl fun E F => ?_
 (refine rQ ?_)
 (refine Tr.done (by first | exact .inl rfl | exact .inr rfl) rfl (by repeat (exact RVs.nil)) (by first | exact Mem.le.refl _ | assumption) (by exact ⟨[], rfl⟩) ⟨rfl, ?_⟩)
 rfl
theorem must_n (M : Mem) (e : Int) (he : e ≠ 0) : FnP Tryz.prog 87 [.int .i64 e] M [] (fun _ _ _ => False) (fun ch M' A' => ch = prCh e ∧ A' = [] ∧ M = M') := by
 refine FnP.intro Tryz.func87 rfl rfl Tryz.ntmps87 rfl fun E F => ?_
 (repeat (first | ((with_reducible refine Tr.step rfl ?_); (first | (refine xmQ ?_) | ((with_reducible refine Knd.makeInterface ?_); (refine Exec.stab rfl (Stab.makeIface rfl (by kernel_rfl)) rfl ?_)) | ((with_reducible refine Knd.panic ?_); (refine Exec.panic rfl ?_)) | (refine xiQ ?_))) | (with_reducible first | apply Tr.next | apply Tr.seq | apply Tr.region | apply Tr.nil) | (refine Tr.cond_t rfl (by (with_reducible assumption)) ?_)))
 exact Tr.doneP (A' := []) (Mem.le.refl _) (by repeat (first | exact DropL.refl | apply DropL.skip)) ⟨rfl, rfl, rfl⟩
def Nums (es : List MapEntry) (l : List Int) : Prop := IntKeys es ∧ (∀ k, (valE k es).isSome = true ↔ k ∈ l) ∧ es.length ≤ l.length ∧ (es.length = l.length ↔ l.Nodup)
theorem Nums.nil : Nums [] [] := ⟨IntKeys.nil, fun k => by simp [valE, lookE], by simp, by simp⟩
theorem Nums.add {es : List MapEntry} {l : List Int} (h : Nums es l) (x : Int) (v : Value) (cl : Nat) : Nums (updE x v es cl).1 (l ++ [x]) := by
 obtain ⟨h1, h2, h3, h4⟩ := h
 refine ⟨updE_keys h1, fun k => ?_, ?_, ?_⟩
 ·rw [updE_val]
  by_cases e : k = x
  ·subst e; simp
  ·simp [e, h2 k]
 ·rw [updE_len]
  split <;> simp <;> omega
 ·rw [updE_len]
  by_cases hx : x ∈ l
  ·rw [if_pos ((h2 x).2 hx)]
   constructor
   ·intro h; simp at h; omega
   ·intro h
    rw [List.nodup_append] at h
    exact absurd rfl (h.2.2 x hx x (by simp))
  ·rw [if_neg (fun h => hx ((h2 x).1 h))]
   constructor
   ·intro h
    have h5 := h4.1 (by simpa using h)
    rw [List.nodup_append]
    exact ⟨h5, by simp, fun a ha b hb => by simp at hb; subst hb; exact fun e => hx (e ▸ ha)⟩
   ·intro h
    have := h4.2 (List.nodup_append.1 h).1
    simp [this]
theorem nums_take {α : Type} (f : α → Int) {l : List α} {i : Nat} {x : α} (h : l[i]? = some x) : (l.take (i + 1)).map f = (l.take i).map f ++ [f x] := by
 rw [List.take_add_one, h, List.map_append]; rfl
set_option maxHeartbeats 4000000 in
theorem twins_fn (M : Mem) (A : Option Addr) (c : Nat) (l : List Sp) (hl : SlOf 6 RSpC M (.slice A l.length c) l) : Fn0 Tryz.prog 42 [.slice A l.length c] M (fun r M' => (∃ b : Bool, r = .bool b ∧ (b = false ↔ (l.map (·.no)).Nodup)) ∧ M = M') := by
 have hll := hl.len_le
 refine Fn.intro Tryz.func42 rfl rfl Tryz.ntmps42 rfl fun E F => ?_
 (repeat (first | ((with_reducible refine Tr.step rfl ?_); (first | (refine xmQ ?_) | (refine xaQ ?_) | (refine xnQ ?_) | ((with_reducible refine Knd.makeMap ?_); (refine Exec.makeMap rfl (fun b => ?_))))) | (with_reducible first | apply Tr.next | apply Tr.seq | apply Tr.region | apply Tr.nil | apply Tr.block)))
 generalize b = mb
 refine Tr.loop (α := Nat × List MapEntry × Nat) (fun y => ⟨22, [(9, .int .i64 (y.1 : Int)), (8, .int .i64 (l.length : Int)), (7, .slice A l.length c), (3, .map (some mb)), (0, .slice A l.length c)], [], M, mapR mb y.2.1 y.2.2 :: F⟩)
  (fun y => y.1 ≤ l.length ∧ Nums y.2.1 ((l.take y.1).map (·.no))) (fun y => l.length - y.1) (0, [], 0) ⟨Nat.zero_le _, Nums.nil⟩ hsQ (fun y hy => ?_)
 obtain ⟨i, es, cl⟩ := y
 obtain ⟨hi, hn⟩ := hy
 simp only at hi hn
 dsimp only
 by_cases hlt : i < l.length
 ·obtain ⟨x, hx⟩ := get_of_lt hlt
  obtain ⟨hA, ch, hat, rfl⟩ := hl.elem hx
  simp only [spC] at hat
  have hkeys := hn.1
  (repeat (first | ((with_reducible refine Tr.step rfl ?_); (first | (refine xmQ ?_) | ((with_reducible refine Knd.load ?_); (first | (refine xlQ ?_) | (refine Exec.stab rfl (Stab.loadMA rfl (tysOk.get rfl) rfl (by assumption) (by first | rfl | assumption)) rfl ?_))) | (refine xfQ ?_) | ((with_reducible refine Knd.binOp ?_); (first | (refine xdQ ?_) | (refine xiQ ?_))) | (refine xWQ ?_) | ((with_reducible refine Knd.alloc ?_); (refine Exec.alloc (tysOk.get rfl) rfl rfl (fun b => ?_))) | ((with_reducible refine Knd.mapUpdate ?_); (refine Exec.mapUpdate rfl rfl rfl (tysOk.get rfl) rfl (tysOk.get rfl) rfl (by assumption) (by repeat (first | exact Upd.here | apply Upd.there)) ?_)) | (refine xxQ ?_))) | (with_reducible first | apply Tr.next | apply Tr.seq | apply Tr.region | apply Tr.nil | apply Tr.skip | apply Tr.block | apply Tr.in_normal) | (refine Tr.cond_t rfl (by first | (with_reducible assumption) | omega) ?_)))
  refine Tr.again (i + 1, (updE x.no (.bool true) es cl).1, (updE x.no (.bool true) es cl).2) ⟨by simp only; omega, ?_⟩ (by simp only; omega) hsQ
  simp only
  rw [nums_take (·.no) hx]
  exact hn.add _ _ _
 ·have ei : i = l.length := by omega
  subst ei
  rw [List.take_length] at hn
  obtain ⟨-, -, n1, n2⟩ := hn
  rw [List.length_map] at n1 n2
  by_cases hb : es.length < l.length
  ·(repeat (first | ((with_reducible refine Tr.step rfl ?_); (first | (refine xmQ ?_) | (refine xaQ ?_) | ((with_reducible refine Knd.len ?_); (first | (refine xnQ ?_) | (refine Exec.stab rfl (Stab.lenMap rfl (tysOk.get rfl) rfl (by repeat (first | exact Has.here | apply Has.there))) rfl ?_))) | (refine xiQ ?_))) | (with_reducible first | apply Tr.next | apply Tr.seq | apply Tr.region | apply Tr.nil | apply Tr.exit | apply Tr.ret | apply Tr.then_exit) | ((with_reducible refine Tr.in_exit ?_ ?_); (exact rfl)) | (refine Tr.cond_f rfl (by first | (with_reducible assumption) | omega) ?_)))
   (refine dnQ (hL := by exact ⟨[_], rfl⟩) ⟨rfl, ?_⟩)
   exact ⟨⟨true, by rw [decide_eq_true (by omega)]; rfl, by simp only [Bool.true_eq_false, false_iff, ← n2]; omega⟩, rfl⟩
  ·(repeat (first | ((with_reducible refine Tr.step rfl ?_); (first | (refine xmQ ?_) | (refine xaQ ?_) | ((with_reducible refine Knd.len ?_); (first | (refine xnQ ?_) | (refine Exec.stab rfl (Stab.lenMap rfl (tysOk.get rfl) rfl (by repeat (first | exact Has.here | apply Has.there))) rfl ?_))) | (refine xiQ ?_))) | (with_reducible first | apply Tr.next | apply Tr.seq | apply Tr.region | apply Tr.nil | apply Tr.exit | apply Tr.ret | apply Tr.then_exit) | ((with_reducible refine Tr.in_exit ?_ ?_); (exact rfl)) | (refine Tr.cond_f rfl (by first | (with_reducible assumption) | omega) ?_)))
   (refine dnQ (hL := by exact ⟨[_], rfl⟩) ⟨rfl, ?_⟩)
   exact ⟨⟨false, by rw [decide_eq_false (by omega)]; rfl, by simp only [true_iff, ← n2]; omega⟩, rfl⟩
set_option maxHeartbeats 8000000 in
theorem amounts_fn (M : Mem) (k : Bp) (As Ar Af Ad : Option Addr) (cs cr cf cd : Nat) (h1 : SlOf 6 RSpC M (.slice As k.sups.length cs) k.sups) (h2 : SlOf 6 RRqC M (.slice Ar k.reqs.length cr) k.reqs) (_ : Fits2 M (.slice Af k.fits.length cf) k.fits) (_ : SlOf 5 RRd M (.slice Ad k.rds.length cd) k.rds) (hs64 : k.sups.length ≤ 1000000) (hr64 : k.reqs.length ≤ 1000000) :
  Fn0 Tryz.prog 88 [.agg #[.int .i64 k.known, .slice As k.sups.length cs, .slice Ar k.reqs.length cr, .slice Af k.fits.length cf, .slice Ad k.rds.length cd]] M (fun r M' => ∃ A1 c1 A2 c2, r = .tuple #[.slice A1 (amS k.sups).length c1, .slice A2 (amR k.reqs).length c2] ∧ Ints M' (.slice A1 (amS k.sups).length c1) (amS k.sups) ∧ Ints M' (.slice A2 (amR k.reqs).length c2) (amR k.reqs)) := by
 refine Fn.intro Tryz.func88 rfl rfl Tryz.ntmps88 rfl fun E F => ?_
 (repeat (first | ((with_reducible refine Tr.step rfl ?_); (first | (refine xmQ ?_) | (refine xaQ ?_) | (refine xlQ ?_) | (refine xfQ ?_) | (refine xnQ ?_) | ((with_reducible refine Knd.box ?_); (refine Exec.box rfl rfl (fun b => ?_))))) | (with_reducible first | apply Tr.next | apply Tr.seq | apply Tr.region | apply Tr.nil | apply Tr.block)))
 generalize b = b1
 refine Tr.own_nil 3 1 ?_
 refine Tr.loop (α := Nat × Option Addr × Nat) (fun y => ⟨36, [(11, .int .i64 (y.1 : Int)), (10, .int .i64 (k.sups.length : Int)), (9, .slice As k.sups.length cs), (2, .slice y.2.1 y.1 y.2.2), (3, .slice none 0 0), (1, .pointer (some ⟨b1, 0, none⟩))], [], M, ownS 3 1 y.2.1 y.1 y.2.2 (intV ((k.sups.take y.1).map (·.amount))) :: box b1 44 [.int .i64 k.known, .slice As k.sups.length cs, .slice Ar k.reqs.length cr, .slice Af k.fits.length cf, .slice Ad k.rds.length cd] :: F⟩)
  (fun y => y.1 ≤ k.sups.length ∧ y.2.2 ≤ 9223372036854775807) (fun y => k.sups.length - y.1) (0, none, 0) ⟨Nat.zero_le _, by simp⟩ hsQ (fun y hy => ?_)
 obtain ⟨i, A1, c1⟩ := y
 obtain ⟨hi, hc1⟩ := hy
 simp only at hi hc1
 dsimp only
 by_cases hlt : i < k.sups.length
 ·obtain ⟨y, hy⟩ := get_of_lt hlt
  obtain ⟨hA, ch, hat, rfl⟩ := h1.elem hy
  simp only [spC] at hat
  have e1 := nums_take (·.amount) hy
  (repeat (first | ((with_reducible refine Tr.step rfl ?_); (first | (refine xmQ ?_) | ((with_reducible refine Knd.load ?_); (first | (refine xlQ ?_) | (refine Exec.stab rfl (Stab.loadMA rfl (tysOk.get rfl) rfl (by assumption) (by first | rfl | assumption)) rfl ?_))) | (refine xfQ ?_) | (refine xiQ ?_) | (refine xWQ ?_) | ((with_reducible refine Knd.alloc ?_); (refine Exec.alloc (tysOk.get rfl) rfl rfl (fun b => ?_))) | (refine xxQ ?_) | ((with_reducible refine Knd.buildSlice ?_); (refine Exec.buildSlice (tysOk.get rfl) rfl (tysOk.get rfl) rfl rfl rfl rfl rfl (by repeat (first | exact BuildP.nil | ((apply BuildP.one); (rfl); (rfl); (first | rfl | assumption); (repeat (first | exact SetL.z | apply SetL.s))))) rfl (fun b => ?_))))) | (with_reducible first | apply Tr.next | apply Tr.seq | apply Tr.region | apply Tr.nil | apply Tr.skip | apply Tr.block) | (refine Tr.cond_t rfl (by first | (with_reducible assumption) | omega) ?_)))
  ((refine Tr.step rfl ?_))
  refine Exec.append (news := [.int .i64 y.amount]) rfl rfl (tysOk.get rfl) rfl (tysOk.get rfl) rfl rfl rfl rfl (by repeat (first | exact Del.here | apply Del.there)) (Src.box (by repeat (first | exact Has.here | apply Has.there))) rfl (by intro u hu; simp at hu; subst hu; rfl) (by omega) (by omega) rfl (fun A3 c3 hc3 => ?_)
  refine gvQ (r := box b 3 _) ?_
  rw [show intV ((k.sups.take i).map (·.amount)) ++ [Value.int .i64 y.amount] = intV ((k.sups.take (i + 1)).map (·.amount)) by rw [e1, intV_append]; rfl]
  (refine rQ ?_)
  refine gvQ (r := box _ 73 _) ?_
  exact Tr.again (i + 1, A3, c3) ⟨by simp only; omega, hc3⟩ (by simp only; omega) hsQ
 have ei : i = k.sups.length := by omega
 subst ei
 rw [List.take_length]
 (refine rQ ?_)
 refine Tr.own_nil 3 1 ?_
 refine Tr.loop (α := Nat × Option Addr × Nat) (fun y => ⟨36, [(24, .int .i64 (y.1 : Int)), (23, .int .i64 (k.reqs.length : Int)), (22, .slice Ar k.reqs.length cr), (3, .slice y.2.1 y.1 y.2.2), (2, .slice A1 k.sups.length c1), (1, .pointer (some ⟨b1, 0, none⟩))], [], M, ownS 3 1 y.2.1 y.1 y.2.2 (intV ((k.reqs.take y.1).map (·.amount))) :: ownS 3 1 A1 k.sups.length c1 (intV (k.sups.map (·.amount))) :: box b1 44 [.int .i64 k.known, .slice As k.sups.length cs, .slice Ar k.reqs.length cr, .slice Af k.fits.length cf, .slice Ad k.rds.length cd] :: F⟩)
  (fun y => y.1 ≤ k.reqs.length ∧ y.2.2 ≤ 9223372036854775807) (fun y => k.reqs.length - y.1) (0, none, 0) ⟨Nat.zero_le _, by simp⟩ hsQ (fun y hy => ?_)
 obtain ⟨i, A2, c2⟩ := y
 obtain ⟨hi, hc2⟩ := hy
 simp only at hi hc2
 dsimp only
 by_cases hlt : i < k.reqs.length
 ·obtain ⟨y, hy⟩ := get_of_lt hlt
  obtain ⟨hA, ch, hat, rfl⟩ := h2.elem hy
  simp only [rqC] at hat
  have e1 := nums_take (·.amount) hy
  (repeat (first | ((with_reducible refine Tr.step rfl ?_); (first | (refine xmQ ?_) | ((with_reducible refine Knd.load ?_); (first | (refine xlQ ?_) | (refine Exec.stab rfl (Stab.loadMA rfl (tysOk.get rfl) rfl (by assumption) (by first | rfl | assumption)) rfl ?_))) | (refine xfQ ?_) | (refine xiQ ?_) | (refine xWQ ?_) | ((with_reducible refine Knd.alloc ?_); (refine Exec.alloc (tysOk.get rfl) rfl rfl (fun b => ?_))) | (refine xxQ ?_) | ((with_reducible refine Knd.buildSlice ?_); (refine Exec.buildSlice (tysOk.get rfl) rfl (tysOk.get rfl) rfl rfl rfl rfl rfl (by repeat (first | exact BuildP.nil | ((apply BuildP.one); (rfl); (rfl); (first | rfl | assumption); (repeat (first | exact SetL.z | apply SetL.s))))) rfl (fun b => ?_))))) | (with_reducible first | apply Tr.next | apply Tr.seq | apply Tr.region | apply Tr.nil | apply Tr.skip | apply Tr.block) | (refine Tr.cond_t rfl (by first | (with_reducible assumption) | omega) ?_)))
  ((refine Tr.step rfl ?_))
  refine Exec.append (news := [.int .i64 y.amount]) rfl rfl (tysOk.get rfl) rfl (tysOk.get rfl) rfl rfl rfl rfl (by repeat (first | exact Del.here | apply Del.there)) (Src.box (by repeat (first | exact Has.here | apply Has.there))) rfl (by intro u hu; simp at hu; subst hu; rfl) (by omega) (by omega) rfl (fun A3 c3 hc3 => ?_)
  refine gvQ (r := box b 3 _) ?_
  rw [show intV ((k.reqs.take i).map (·.amount)) ++ [Value.int .i64 y.amount] = intV ((k.reqs.take (i + 1)).map (·.amount)) by rw [e1, intV_append]; rfl]
  (refine rQ ?_)
  refine gvQ (r := box _ 46 _) ?_
  exact Tr.again (i + 1, A3, c3) ⟨by simp only; omega, hc3⟩ (by simp only; omega) hsQ
 have ei : i = k.reqs.length := by omega
 subst ei
 rw [List.take_length]
 refine pbQ (r := ownS 3 1 A2 _ _ _) (fun M2 hm2 hok => ?_)
 refine pbQ (r := ownS 3 1 A1 _ _ _) (fun M3 hm3 hok2 => ?_)
 have hI1 : Ints M3 (.slice A1 (amS k.sups).length c1) (amS k.sups) := Ints.ofOwn hok2 (by simp [amS]) hc1
 have hI2 : Ints M3 (.slice A2 (amR k.reqs).length c2) (amR k.reqs) := (Ints.ofOwn hok (by simp) hc2).mono RI.mono hm3
 have hmm := hm2.trans hm3
 rw [show k.sups.length = (amS k.sups).length by simp [amS], show k.reqs.length = (amR k.reqs).length by simp [amR]]
 (refine rQ ?_)
 (refine dnQ (hL := by exact ⟨[_], rfl⟩) ⟨rfl, ?_⟩)
 exact ⟨_, _, _, _, rfl, hI1, hI2⟩
theorem sum_take {l : List Int} {i : Nat} {x : Int} (h : l[i]? = some x) : (l.take (i + 1)).sum = (l.take i).sum + x := by
 rw [List.take_add_one, h, Option.toList_some, List.sum_append]
 simp
theorem sum_bound : ∀ {l : List Int} {n : Nat}, (∀ x ∈ l, 0 ≤ x ∧ x ≤ 1048576) → l.length ≤ n → 0 ≤ l.sum ∧ l.sum ≤ 1048576 * (n : Int)
 | [], n, _, _ => by simp; omega
 | x :: l, n, h, hn => by
  obtain ⟨n, rfl⟩ : ∃ m, n = m + 1 := ⟨n - 1, by simp at hn; omega⟩
  have h1 := sum_bound (l := l) (n := n) (fun y hy => h y (by simp [hy])) (by simpa using hn)
  have h2 := h x (by simp)
  rw [List.sum_cons]
  omega
set_option maxHeartbeats 8000000 in
theorem bpossible_fn0 (M : Mem) (k : Bp) (As Ar Af Ad : Option Addr) (cs cr cf cd : Nat) (h1 : SlOf 6 RSpC M (.slice As k.sups.length cs) k.sups) (h2 : SlOf 6 RRqC M (.slice Ar k.reqs.length cr) k.reqs) (h3 : Fits2 M (.slice Af k.fits.length cf) k.fits) (h4 : SlOf 5 RRd M (.slice Ad k.rds.length cd) k.rds) (hv : Vld k.fits (amS k.sups) (amR k.reqs)) :
  Fn0 Tryz.prog 85 [.agg #[.int .i64 k.known, .slice As k.sups.length cs, .slice Ar k.reqs.length cr, .slice Af k.fits.length cf, .slice Ad k.rds.length cd]] M (fun r _ => ∃ b : Bool, r = .bool b ∧ (b = true ↔ Feas (pbB k))) := by
 have v1 := hv.ls
 have v2 := hv.ln
 simp only [amS, amR, List.length_map] at v1 v2
 refine Fn.intro Tryz.func85 rfl rfl Tryz.ntmps85 rfl fun E F => ?_
 (repeat (first | ((with_reducible refine Tr.step rfl ?_); (first | (refine xaQ ?_) | (refine xwQ ?_) | ((with_reducible refine Knd.box ?_); (refine Exec.box rfl rfl (fun b => ?_))))) | (with_reducible first | apply Tr.next | apply Tr.seq | apply Tr.region | apply Tr.nil)))
 ((refine Tr.step rfl ?_)); refine Exec.call0 rfl (amounts_fn M k As Ar Af Ad cs cr cf cd h1 h2 h3 h4 (by omega) (by omega)) rfl ?_
 rintro _ M1 hm1 ⟨A1, c1, A2, c2, rfl, hI1, hI2⟩
 (refine rQ ?_)
 generalize b = b1
 refine Tr.loop (α := Nat) (fun i => ⟨40, [(17, .int .i64 (i : Int)), (16, .int .i64 ((amR k.reqs).length : Int)), (15, .slice A2 (amR k.reqs).length c2), (5, .int .i64 ((amR k.reqs).take i).sum), (3, .slice A1 (amS k.sups).length c1), (4, .slice A2 (amR k.reqs).length c2), (1, .pointer (some ⟨b1, 0, none⟩))], [], M1, box b1 44 [.int .i64 k.known, .slice As k.sups.length cs, .slice Ar k.reqs.length cr, .slice Af k.fits.length cf, .slice Ad k.rds.length cd] :: F⟩)
  (fun i => i ≤ (amR k.reqs).length) (fun i => (amR k.reqs).length - i) 0 (Nat.zero_le _) hsQ (fun i hi => ?_)
 have v3 := hv.ln
 by_cases hlt : i < (amR k.reqs).length
 ·obtain ⟨x, hx⟩ := get_of_lt hlt
  obtain ⟨hA, hat⟩ := hI2.at hx
  have e := sum_take hx
  have b1 := sum_bound (l := (amR k.reqs).take i) (n := 64) (fun y hy => hv.rn y (List.mem_of_mem_take hy)) (by simp; omega)
  have b2 := hv.rn x (List.mem_of_getElem? hx)
  (refine rQ ?_)
  rw [← e]
  exact Tr.again (i + 1) (by omega) (by omega) hsQ
 have ei : i = (amR k.reqs).length := by omega
 subst ei
 rw [List.take_length]
 have rs : I64s (amS k.sups) := fun x hx => by have := hv.rs x hx; omega
 have rn : I64s (amR k.reqs) := fun x hx => by have := hv.rn x hx; omega
 (refine rQ ?_)
 ((refine Tr.step rfl ?_)); refine Exec.call0 rfl (most2_fn M1 Af A1 A2 cf c1 c2 k.fits (amS k.sups) (amR k.reqs) (h3.mono RRowB.mono hm1) hI1 hI2 rs rn) rfl ?_
 rintro _ _ _ ⟨⟨hbad, -⟩ | ⟨-, L, rfl, hL⟩, rfl⟩
 ·rw [vld_iff.2 hv] at hbad
  cases hbad
 have hz := hL.zero hv.sup0 hv.need0
 by_cases h0 : (amR k.reqs).sum - L = (amR k.reqs).sum
 ·(refine rQ ?_)
  (refine dnQ (hL := by exact ⟨[_], rfl⟩) ⟨rfl, ?_⟩)
  exact ⟨true, by rw [decide_eq_true h0]; rfl, ⟨fun _ => hz.1 (by omega), fun _ => rfl⟩⟩
 ·(refine rQ ?_)
  (refine dnQ (hL := by exact ⟨[_], rfl⟩) ⟨rfl, ?_⟩)
  exact ⟨false, by rw [decide_eq_false h0]; rfl, ⟨fun h => (by cases h), fun h => absurd (by rw [hz.2 h]; omega) h0⟩⟩
theorem bpossible_fn (M : Mem) (k : Bp) (As Ar Af Ad : Option Addr) (cs cr cf cd : Nat) (h1 : SlOf 6 RSpC M (.slice As k.sups.length cs) k.sups) (h2 : SlOf 6 RRqC M (.slice Ar k.reqs.length cr) k.reqs) (h3 : Fits2 M (.slice Af k.fits.length cf) k.fits) (h4 : SlOf 5 RRd M (.slice Ad k.rds.length cd) k.rds) (hv : Vld k.fits (amS k.sups) (amR k.reqs)) :
  Fn0 Tryz.prog 85 [.agg #[.int .i64 k.known, .slice As k.sups.length cs, .slice Ar k.reqs.length cr, .slice Af k.fits.length cf, .slice Ad k.rds.length cd]] M (fun r M' => (∃ b : Bool, r = .bool b ∧ (b = true ↔ Feas (pbB k))) ∧ M = M') :=
 Fn.mono (Fn.forget (R := fun r A' => A' = [] ∧ ∃ b : Bool, r = .bool b ∧ (b = true ↔ Feas (pbB k))) (bpossible_fn0 M k As Ar Af Ad cs cr cf cd h1 h2 h3 h4 hv)) fun _ _ _ _ ⟨⟨a, b⟩, c⟩ => ⟨a, b, c⟩
end Go.Proofs.YtlifjajcmnkhfaaGreat

/-
 Promises: maker and check.
 Conditions: none.
-/
namespace Go.Proofs.YtlifjajcmnkhfaaGreat
open Go Bf
attribute [local irreducible] Tr Exec Stab HasTy Go.Addr.add IntKind.wrap
theorem maker_fn (M : Mem) (ws : List Value) (k : Bp) (As Ar Af Ad : Option Addr) (cs cr cf cd : Nat) :
  Bf.Fn Tryz.prog 41 [.agg ws.toArray, .agg #[.int .i64 k.known, .slice As k.sups.length cs, .slice Ar k.reqs.length cr, .slice Af k.fits.length cf, .slice Ad k.rds.length cd]] M [] (fun v M' A' => ∃ b2 b3, v = .func (.func 79) #[] #[.pointer (some ⟨b2, 0, none⟩), .pointer (some ⟨b3, 0, none⟩)] ∧ M = M' ∧ A' = [box b3 44 [.int .i64 k.known, .slice As k.sups.length cs, .slice Ar k.reqs.length cr, .slice Af k.fits.length cf, .slice Ad k.rds.length cd], box b2 38 ws]) := by
 refine Fn.intro Tryz.func41 rfl rfl Tryz.ntmps41 rfl fun E F => ?_
 (repeat (first | ((with_reducible refine Tr.step rfl ?_); (first | (refine xaQ ?_) | ((with_reducible refine Knd.makeFunc ?_); (refine Exec.stab rfl (Stab.makeFunc rfl rfl) rfl ?_)) | ((with_reducible refine Knd.box ?_); (refine Exec.box rfl rfl (fun b => ?_))))) | (with_reducible first | apply Tr.next | apply Tr.seq | apply Tr.region | apply Tr.nil | apply Tr.ret)))
 refine Tr.doneA (A' := [box _ 44 [.int .i64 k.known, .slice As k.sups.length cs, .slice Ar k.reqs.length cr, .slice Af k.fits.length cf, .slice Ad k.rds.length cd], box _ 38 ws]) (by first | exact .inl rfl | exact .inr rfl) rfl (by repeat (first | exact RVs.nil | (apply RVs.cons; (exact RV.tmp rfl)))) (Mem.le.refl _) ⟨fun _ h => h, fun h => h⟩ ⟨_, _, rfl, rfl, rfl⟩
def MkR (w : Wd) (k : Bp) (r : List Rq) (v : Value) (M : Mem) : Prop :=
 (¬ okT k.sups r ∧ v = .tuple #[.agg #[.int .i64 0, .slice none 0 0, .slice none 0 0, .slice none 0 0, .slice none 0 0], .int .i64 290]) ∨ (okT k.sups r ∧ ∃ x, v = .tuple #[x, .int .i64 0] ∧ RBp M x (mkF w k r))
set_option maxHeartbeats 8000000 in
set_option maxRecDepth 20000 in
theorem maker1_fn (M : Mem) (ws : List Value) (w : Wd) (hw : RWd M ws w) (k : Bp) (As Ar Af Ad : Option Addr) (cs cr cf cd : Nat) (h1 : SlOf 6 RSpC M (.slice As k.sups.length cs) k.sups) (_ : SlOf 6 RRqC M (.slice Ar k.reqs.length cr) k.reqs) (_ : Fits2 M (.slice Af k.fits.length cf) k.fits) (_ : SlOf 5 RRd M (.slice Ad k.rds.length cd) k.rds) (b2 b3 : Nat) (Ax : Option Addr) (cx : Nat) (r : List Rq) (hr : SlOf 6 RRqC M (.slice Ax r.length cx) r) :
  Bf.Fn Tryz.prog 79 [.slice Ax r.length cx, .pointer (some ⟨b2, 0, none⟩), .pointer (some ⟨b3, 0, none⟩)] M [box b3 44 [.int .i64 k.known, .slice As k.sups.length cs, .slice Ar k.reqs.length cr, .slice Af k.fits.length cf, .slice Ad k.rds.length cd], box b2 38 ws] (fun v M' A' => A' = [box b3 44 [.int .i64 k.known, .slice As k.sups.length cs, .slice Ar k.reqs.length cr, .slice Af k.fits.length cf, .slice Ad k.rds.length cd], box b2 38 ws] ∧ MkR w k r v M') := by
 have h11 := hw.len
 refine Fn.intro Tryz.func79 rfl rfl Tryz.ntmps79 rfl fun E F => ?_
 (repeat (first | ((with_reducible refine Tr.step rfl ?_); (first | (refine xmQ ?_) | (refine xaQ ?_) | ((with_reducible refine Knd.load ?_); (first | (refine xlQ ?_) | (refine Exec.stab rfl (Stab.loadW rfl (tysOk.get rfl) rfl (by repeat (first | exact Has.here | apply Has.there)) (by assumption)) rfl ?_))) | (refine xfQ ?_) | ((with_reducible refine Knd.alloc ?_); (refine Exec.alloc (tysOk.get rfl) rfl rfl (fun b => ?_))))) | (with_reducible first | apply Tr.next | apply Tr.seq | apply Tr.region | apply Tr.nil)))
 generalize b = b4
 ((refine Tr.step rfl ?_)); refine Exec.call0 rfl (table_fn M ws w hw As Ax cs cx k.sups r k.known h1 hr) rfl ?_
 rintro _ M1 hm1 (⟨hno, rfl⟩ | ⟨hok, A5, c5, B5, k5, rfl, hf, hrd⟩)
 ·(repeat (first | ((with_reducible refine Tr.step rfl ?_); (first | (refine xmQ ?_) | (refine xaQ ?_) | (refine xiQ ?_) | (refine xWQ ?_) | ((with_reducible refine Knd.extract ?_); (refine Exec.stab rfl (Stab.extract rfl rfl) rfl ?_)) | ((with_reducible refine Knd.build ?_); (refine Exec.stab rfl (Stab.build tysOk rfl rfl rfl rfl (by repeat (exact BuildP.nil))) rfl ?_)))) | (with_reducible first | apply Tr.next | apply Tr.seq | apply Tr.region | apply Tr.nil | apply Tr.ret | apply Tr.then_ret) | (refine Tr.cond_t rfl (by first | (with_reducible assumption) | omega) ?_)))
  exact Tr.doneB (A' := [box b3 44 [.int .i64 k.known, .slice As k.sups.length cs, .slice Ar k.reqs.length cr, .slice Af k.fits.length cf, .slice Ad k.rds.length cd], box b2 38 ws]) [_] (by first | exact .inl rfl | exact .inr rfl) rfl (by repeat (first | exact RVs.nil | (apply RVs.cons; (first | exact RV.tmp rfl | exact RV.cellW (by rfl) (tysOk.get (by rfl)) (by rfl) (by repeat (first | exact Has.here | apply Has.there)) (by first | rfl | assumption))))) hm1 (List.Perm.refl _) ⟨rfl, .inl ⟨hno, rfl⟩⟩
 have l1 := hok.1.1
 have l2 := hok.1.2
 (repeat (first | ((with_reducible refine Tr.step rfl ?_); (first | (refine xmQ ?_) | (refine xaQ ?_) | (refine xlQ ?_) | (refine xfQ ?_) | (refine xiQ ?_) | (refine xWQ ?_) | ((with_reducible refine Knd.alloc ?_); (refine Exec.alloc (tysOk.get rfl) rfl rfl (fun b => ?_))) | ((with_reducible refine Knd.extract ?_); (refine Exec.stab rfl (Stab.extract rfl rfl) rfl ?_)) | ((with_reducible refine Knd.build ?_); (refine Exec.stab rfl (Stab.build tysOk rfl rfl rfl rfl (by repeat (first | exact BuildP.nil | ((apply BuildP.one); (rfl); (rfl); (first | rfl | assumption); (repeat (first | exact SetL.z | apply SetL.s)))))) rfl ?_)))) | (with_reducible first | apply Tr.next | apply Tr.seq | apply Tr.region | apply Tr.nil | apply Tr.skip) | (refine Tr.cond_f rfl (by (with_reducible exact (not_not_intro rfl))) ?_)))
 generalize b = b9
 ((refine Tr.step rfl ?_))
 refine Exec.call (A := []) rfl (cloneSp_fn M1 As cs k.sups (h1.mono RSpC.mono hm1) (by omega)) (List.Perm.refl _) rfl ?_
 rintro _ _ _ _ ⟨⟨B6, k6, rfl, hk6, rfl⟩, rfl⟩
 (refine rQ ?_)
 ((refine Tr.step rfl ?_))
 refine Exec.call (A := []) rfl (cloneRq_fn M1 Ax cx r (hr.mono RRqC.mono hm1) (by omega)) (List.Perm.refl _) rfl ?_
 rintro _ _ _ _ ⟨⟨B7, k7, rfl, hk7, rfl⟩, rfl⟩
 (refine rQ ?_)
 refine pbQ (r := ownS 46 6 B7 _ _ _) (fun M2 hm2 hok2 => ?_)
 refine pbQ (r := ownS 73 6 B6 _ _ _) (fun M3 hm3 hok3 => ?_)
 have g1 : SlOf 6 RSpC M3 (.slice B6 k.sups.length k6) k.sups := SlOf.ofOwn hok3 rfl hk6 (spC_elems _ _)
 have g2 : SlOf 6 RRqC M3 (.slice B7 r.length k7) r := (SlOf.ofOwn hok2 rfl hk7 (rqC_elems _ _)).mono RRqC.mono hm3
 have hm23 := hm2.trans hm3
 exact Tr.doneB (A' := [box b3 44 [.int .i64 k.known, .slice As k.sups.length cs, .slice Ar k.reqs.length cr, .slice Af k.fits.length cf, .slice Ad k.rds.length cd], box b2 38 ws]) [_, _] (by first | exact .inl rfl | exact .inr rfl) rfl (by repeat (first | exact RVs.nil | (apply RVs.cons; (first | exact RV.tmp rfl | exact RV.cellW (by rfl) (tysOk.get (by rfl)) (by rfl) (by repeat (first | exact Has.here | apply Has.there)) (by first | rfl | assumption))))) (hm1.trans hm23) (List.Perm.refl _) ⟨rfl, .inr ⟨hok, _, rfl, B6, k6, B7, k7, A5, c5, B5, k5, rfl, g1, g2, hf.mono RRowB.mono hm23, hrd.mono RRd.mono hm23⟩⟩
set_option maxHeartbeats 16000000 in
set_option maxRecDepth 20000 in
theorem check_fn (M : Mem) (ws : List Value) (w : Wd) (hw : RWd M ws w) (k : Bp) (As Ar Af Ad : Option Addr) (cs cr cf cd : Nat) (h1 : SlOf 6 RSpC M (.slice As k.sups.length cs) k.sups) (h2 : SlOf 6 RRqC M (.slice Ar k.reqs.length cr) k.reqs) (h3 : Fits2 M (.slice Af k.fits.length cf) k.fits) (h4 : SlOf 5 RRd M (.slice Ad k.rds.length cd) k.rds) (_ : cf ≤ 9223372036854775807) :
  FnP Tryz.prog 45 [.agg ws.toArray, .agg #[.int .i64 k.known, .slice As k.sups.length cs, .slice Ar k.reqs.length cr, .slice Af k.fits.length cf, .slice Ad k.rds.length cd]] M [] (fun _ _ A' => A' = [] ∧ okB w k) (fun ch _ A' => ch = prCh 310 ∧ A' = [] ∧ ¬ okB w k) := by
 have h11 := hw.len
 have hl1 := h1.len_le
 have hl2 := h2.len_le
 refine FnP.intro Tryz.func45 rfl rfl Tryz.ntmps45 rfl fun E F => ?_
 (repeat (first | ((with_reducible refine Tr.step rfl ?_); (first | (refine xmQ ?_) | (refine xaQ ?_) | (refine xlQ ?_) | (refine xfQ ?_) | (refine xnQ ?_) | ((with_reducible refine Knd.box ?_); (refine Exec.box rfl rfl (fun b => ?_))) | ((with_reducible refine Knd.makeMap ?_); (refine Exec.makeMap rfl (fun b => ?_))))) | (with_reducible first | apply Tr.next | apply Tr.seq | apply Tr.region | apply Tr.nil | apply Tr.block)))
 rename_i b2 b3
 generalize b = mb
 refine Tr.loop (α := Nat × List MapEntry × Nat) (fun y => ⟨62, [(13, .int .i64 (y.1 : Int)), (12, .int .i64 (k.reqs.length : Int)), (11, .slice Ar k.reqs.length cr), (4, .map (some mb)), (2, .pointer (some ⟨b2, 0, none⟩)), (3, .pointer (some ⟨b3, 0, none⟩))], [], M, mapR mb y.2.1 y.2.2 :: box b3 44 [.int .i64 k.known, .slice As k.sups.length cs, .slice Ar k.reqs.length cr, .slice Af k.fits.length cf, .slice Ad k.rds.length cd] :: box b2 38 ws :: ([] ++ F)⟩)
  (fun y => y.1 ≤ k.reqs.length ∧ Nums y.2.1 ((k.reqs.take y.1).map (·.no))) (fun y => k.reqs.length - y.1) (0, [], 0) ⟨Nat.zero_le _, Nums.nil⟩ hsQ (fun y hy => ?_)
 obtain ⟨i, es, cl⟩ := y
 obtain ⟨hi, hn⟩ := hy
 simp only at hi hn
 dsimp only
 by_cases hlt : i < k.reqs.length
 ·obtain ⟨x, hx⟩ := get_of_lt hlt
  obtain ⟨hA, ch, hat, rfl⟩ := h2.elem hx
  simp only [rqC] at hat
  have hkeys := hn.1
  (repeat (first | ((with_reducible refine Tr.step rfl ?_); (first | (refine xmQ ?_) | ((with_reducible refine Knd.load ?_); (first | (refine xlQ ?_) | (refine Exec.stab rfl (Stab.loadMA rfl (tysOk.get rfl) rfl (by assumption) (by first | rfl | assumption)) rfl ?_))) | (refine xfQ ?_) | ((with_reducible refine Knd.binOp ?_); (first | (refine xdQ ?_) | (refine xiQ ?_))) | (refine xWQ ?_) | ((with_reducible refine Knd.alloc ?_); (refine Exec.alloc (tysOk.get rfl) rfl rfl (fun b => ?_))) | ((with_reducible refine Knd.mapUpdate ?_); (refine Exec.mapUpdate rfl rfl rfl (tysOk.get rfl) rfl (tysOk.get rfl) rfl (by assumption) (by repeat (first | exact Upd.here | apply Upd.there)) ?_)) | (refine xxQ ?_))) | (with_reducible first | apply Tr.next | apply Tr.seq | apply Tr.region | apply Tr.nil | apply Tr.skip | apply Tr.block | apply Tr.in_normal) | (refine Tr.cond_t rfl (by first | (with_reducible assumption) | omega) ?_)))
  refine Tr.again (i + 1, (updE x.no (.bool true) es cl).1, (updE x.no (.bool true) es cl).2) ⟨by simp only; omega, ?_⟩ (by simp only; omega) hsQ
  simp only
  rw [nums_take (·.no) hx]
  exact hn.add _ _ _
 have ei : i = k.reqs.length := by omega
 subst ei
 rw [List.take_length] at hn
 obtain ⟨-, -, n1, n2⟩ := hn
 rw [List.length_map] at n1 n2
 by_cases hb : (es.length : Int) = (k.reqs.length : Int)
 rotate_left
 ·(repeat (first | ((with_reducible refine Tr.step rfl ?_); (first | (refine xmQ ?_) | (refine xlQ ?_) | (refine xfQ ?_) | ((with_reducible refine Knd.len ?_); (first | (refine xnQ ?_) | (refine Exec.stab rfl (Stab.lenMap rfl (tysOk.get rfl) rfl (by repeat (first | exact Has.here | apply Has.there))) rfl ?_))) | (refine xiQ ?_) | ((with_reducible refine Knd.pick ?_); (refine Exec.stab rfl (Stab.pick_fd rfl (by (with_reducible assumption)) rfl) rfl ?_)))) | (with_reducible first | apply Tr.next | apply Tr.seq | apply Tr.region | apply Tr.nil) | (refine Tr.guard_n rfl rfl rfl (by (with_reducible assumption)) rfl rfl ?_) | (with_reducible first | apply Tr.exit | apply Tr.then_exit) | ((with_reducible refine Tr.in_exit ?_ ?_); (exact rfl)) | (refine Tr.cond_f rfl (by first | (with_reducible assumption) | omega) ?_)))
  ((refine Tr.step rfl ?_))
  refine Exec.callP rfl (prequire_n M) (List.Perm.refl _) rfl (fun v M' A' hm hR => hR.elim) (fun ch M' A' hm hR => ?_)
  obtain ⟨rfl, rfl, rfl⟩ := hR
  (repeat ((with_reducible refine Tr.then_panic ?_)))
  exact Tr.doneP (A' := []) hm (by repeat (first | exact DropL.refl | apply DropL.skip)) ⟨rfl, rfl, fun h => hb (by have := n2.2 h.1.1; omega)⟩
 have hnr : (k.reqs.map (·.no)).Nodup := n2.1 (by omega)
 (repeat (first | ((with_reducible refine Tr.step rfl ?_); (first | (refine xmQ ?_) | (refine xlQ ?_) | (refine xfQ ?_) | ((with_reducible refine Knd.len ?_); (first | (refine xnQ ?_) | (refine Exec.stab rfl (Stab.lenMap rfl (tysOk.get rfl) rfl (by repeat (first | exact Has.here | apply Has.there))) rfl ?_))) | (refine xiQ ?_))) | (with_reducible first | apply Tr.next | apply Tr.seq | apply Tr.region | apply Tr.nil) | ((refine Tr.guard_y rfl rfl rfl (by (with_reducible assumption)) ?_); (first | (refine xlQ ?_) | (refine xfQ ?_))) | (with_reducible first | apply Tr.exit | apply Tr.then_exit) | ((with_reducible refine Tr.in_exit ?_ ?_); (exact rfl)) | (refine Tr.cond_f rfl (by first | (with_reducible assumption) | omega) ?_)))
 ((refine Tr.guard_y rfl rfl rfl (by (with_reducible assumption)) ?_)); refine Exec.call0 rfl (twins_fn M As cs k.sups h1) rfl ?_
 rintro _ _ _ ⟨⟨tw, rfl, htw⟩, rfl⟩
 cases tw with
 | true =>
  (refine rQ ?_)
  ((refine Tr.step rfl ?_))
  refine Exec.callP rfl (prequire_n M) (List.Perm.refl _) rfl (fun v M' A' hm hR => hR.elim) (fun ch M' A' hm hR => ?_)
  obtain ⟨rfl, rfl, rfl⟩ := hR
  (repeat ((with_reducible refine Tr.then_panic ?_)))
  exact Tr.doneP (A' := []) hm (by repeat (first | exact DropL.refl | apply DropL.skip)) ⟨rfl, rfl, fun h => by have := htw.2 h.1.2; cases this⟩
 | false =>
 have hns := htw.1 rfl
 (refine rQ ?_)
 ((refine Tr.step rfl ?_)); refine Exec.call0 rfl (prequire_y M) rfl ?_
 rintro _ _ _ rfl
 (repeat (first | (with_reducible first | apply Tr.next | apply Tr.seq | apply Tr.nil)))
 (((apply Tr.draw); (kernel_rfl)); (refine tkQ 0 (hB := by exact fun _ h => h) (s := by exact Stab.loadW rfl (tysOk.get rfl) rfl (by repeat (first | exact Has.here | apply Has.there)) (by assumption)) ?_); (refine tkQ 1 (s := by exact swQ) ?_); (refine tkQ 3 (s := by exact sfQ) ?_); (refine tkQ 4 (s := by exact slQ) ?_))
 ((refine TrM.start1 _ (by exact PA.alloc 9 rfl (tysOk.get rfl) rfl rfl) (by kernel_rfl) ?_); (refine TrM.eff 2 rfl (by kernel_rfl) (by exact .inl rfl) (by repeat (first | exact PendOk.nil | refine PendOk.cons rfl (by repeat (first | exact SubFr.nil | refine SubFr.cons rfl ?_)) ?_)) (by exact fun _ h => h) (by repeat (first | apply AppF.cons | exact AppF.nil)) (by repeat (first | apply AppF.cons | exact AppF.app)) (fun Y X => ?_)))
 refine Exec.call (A := []) rfl (maker_fn M ws k As Ar Af Ad cs cr cf cd) (List.Perm.refl _) rfl ?_
 rintro _ _ _ _ ⟨b5, b6, rfl, rfl, rfl⟩
 (refine ⟨_, _, (by repeat (first | apply App.cons | exact App.nil | exact App.app)), (by repeat (first | apply App.cons | exact App.nil | exact App.app)), rfl, (by first | exact Mem.le.refl _ | assumption), (by exact (Sub.mem (by repeat (first | exact Sub.refl | apply Sub.cons)))), ?_⟩)
 ((refine TrM.eff 5 rfl (by kernel_rfl) (by exact .inl rfl) (by repeat (first | exact PendOk.nil | refine PendOk.cons rfl (by repeat (first | exact SubFr.nil | refine SubFr.cons rfl ?_)) ?_)) (by exact (Sub.mem (by repeat (first | exact Sub.refl | apply Sub.cons)))) (by repeat (first | apply AppF.cons | exact AppF.nil)) (by repeat (first | apply AppF.cons | exact AppF.app)) (fun Y X => ?_)))
 refine Exec.callv (first := []) (cap := [.pointer (some ⟨b5, 0, none⟩), .pointer (some ⟨b6, 0, none⟩)]) (A := [box b6 44 [.int .i64 k.known, .slice As k.sups.length cs, .slice Ar k.reqs.length cr, .slice Af k.fits.length cf, .slice Ad k.rds.length cd], box b5 38 ws]) rfl rfl (maker1_fn M ws w hw k As Ar Af Ad cs cr cf cd h1 h2 h3 h4 b5 b6 Ar cr k.reqs h2) (List.Perm.refl _) rfl ?_
 rintro v M1 _ hm1 ⟨rfl, hmk⟩
 (refine ⟨_, _, (by repeat (first | apply App.cons | exact App.nil | exact App.app)), (by repeat (first | apply App.cons | exact App.nil | exact App.app)), rfl, (by first | exact Mem.le.refl _ | assumption), (by exact (Sub.mem (by repeat (first | exact Sub.refl | apply Sub.cons)))), ?_⟩)
 rcases hmk with ⟨hno, rfl⟩ | ⟨hok, x, rfl, As', cs', Ar', cr', Af', cf', Ad', cd', rfl, g1, g2, g3, g4⟩
 ·((refine TrM.take 6 (by kernel_rfl) rfl (by kernel_rfl) (by exact fun _ _ _ h => h) (by exact (Sub.mem (by repeat (first | exact Sub.refl | apply Sub.cons)))) rfl (by first | exact Stab.move rfl) rfl rfl ?_); (refine TrM.take 7 (by kernel_rfl) rfl (by kernel_rfl) (by exact fun _ _ _ h => h) (by exact (Sub.mem (by repeat (first | exact Sub.refl | apply Sub.cons)))) rfl (by first | exact Stab.extract rfl rfl) rfl rfl ?_); (refine TrM.take 8 (by kernel_rfl) rfl (by kernel_rfl) (by exact fun _ _ _ h => h) (by exact (Sub.mem (by repeat (first | exact Sub.refl | apply Sub.cons)))) rfl (by first | exact Stab.extract rfl rfl) rfl rfl ?_); (refine TrM.settle (by kernel_rfl) (by repeat (first | exact PendOk.nil | refine PendOk.cons rfl (by repeat (first | exact SubFr.nil | refine SubFr.cons rfl ?_)) ?_)) (by exact (Sub.mem (by repeat (first | exact Sub.refl | apply Sub.cons)))) (fun b => ?_)); dsimp only; (refine TrM.fin ?_))
  ((refine TrA.eff 10 rfl (by kernel_rfl) (by exact .inl rfl) ?_); (((refine Knd.store ?_); ((refine xWQ ?_)))); (refine ⟨(by first | exact Mem.le.refl _ | assumption), (by exact (Sub.mem (by repeat (first | exact Sub.refl | apply Sub.cons)))), ?_⟩); (refine tkQ 11 (s := by exact Stab.assign rfl) ?_); (refine TrA.done (by kernel_rfl) ?_))
  (refine rQ ?_)
  ((refine Tr.step rfl ?_))
  refine Exec.callP rfl (prequire_n _) (List.Perm.refl _) rfl (fun v M' A' hm hR => hR.elim) (fun ch M' A' hm hR => ?_)
  obtain ⟨rfl, rfl, rfl⟩ := hR
  (repeat ((with_reducible refine Tr.then_panic ?_)))
  exact Tr.doneP (A' := []) (hm1.trans hm) (by repeat (first | exact DropL.refl | apply DropL.skip)) ⟨rfl, rfl, fun h => hno h.2.1⟩
 ((refine TrM.take 6 (by kernel_rfl) rfl (by kernel_rfl) (by exact fun _ _ _ h => h) (by exact (Sub.mem (by repeat (first | exact Sub.refl | apply Sub.cons)))) rfl (by first | exact Stab.move rfl) rfl rfl ?_); (refine TrM.take 7 (by kernel_rfl) rfl (by kernel_rfl) (by exact fun _ _ _ h => h) (by exact (Sub.mem (by repeat (first | exact Sub.refl | apply Sub.cons)))) rfl (by first | exact Stab.extract rfl rfl) rfl rfl ?_); (refine TrM.take 8 (by kernel_rfl) rfl (by kernel_rfl) (by exact fun _ _ _ h => h) (by exact (Sub.mem (by repeat (first | exact Sub.refl | apply Sub.cons)))) rfl (by first | exact Stab.extract rfl rfl) rfl rfl ?_); (refine TrM.settle (by kernel_rfl) (by repeat (first | exact PendOk.nil | refine PendOk.cons rfl (by repeat (first | exact SubFr.nil | refine SubFr.cons rfl ?_)) ?_)) (by exact (Sub.mem (by repeat (first | exact Sub.refl | apply Sub.cons)))) (fun b => ?_)); dsimp only; (refine TrM.fin ?_))
 ((refine TrA.eff 10 rfl (by kernel_rfl) (by exact .inl rfl) ?_); (((refine Knd.store ?_); ((refine xWQ ?_)))); (refine ⟨(by first | exact Mem.le.refl _ | assumption), (by exact (Sub.mem (by repeat (first | exact Sub.refl | apply Sub.cons)))), ?_⟩); (refine tkQ 11 (s := by exact Stab.assign rfl) ?_); (refine TrA.done (by kernel_rfl) ?_))
 (refine rQ ?_)
 ((refine Tr.step rfl ?_)); refine Exec.call0 rfl (prequire_y M1) rfl ?_
 rintro _ _ _ rfl
 (refine rQ ?_)
 ((refine Tr.step rfl ?_)); refine Exec.call0 rfl (sameRows_fn M1 (mkF w k k.reqs).fits k.fits Af' Af cf' cf g3 (h3.mono RRowB.mono hm1)) rfl ?_
 rintro _ _ _ ⟨⟨q1, rfl, hq1⟩, rfl⟩
 cases q1 with
 | false =>
  (refine rQ ?_)
  ((refine Tr.step rfl ?_))
  refine Exec.callP rfl (prequire_n _) (List.Perm.refl _) rfl (fun v M' A' hm hR => hR.elim) (fun ch M' A' hm hR => ?_)
  obtain ⟨rfl, rfl, rfl⟩ := hR
  (repeat ((with_reducible refine Tr.then_panic ?_)))
  exact Tr.doneP (A' := []) (hm1.trans hm) (by repeat (first | exact DropL.refl | apply DropL.skip)) ⟨rfl, rfl, fun h => by have := hq1.2 h.2.2.1.1; cases this⟩
 | true =>
 (refine rQ ?_)
 ((refine Tr.guard_l rfl rfl rfl (by (with_reducible rfl)) ?_)); refine Exec.call0 rfl (equalRd_fn M1 (mkF w k k.reqs).rds k.rds Ad' Ad cd' cd g4 (h4.mono RRd.mono hm1)) rfl ?_
 rintro _ _ _ ⟨⟨q2, rfl, hq2⟩, rfl⟩
 cases q2 with
 | false =>
  (refine rQ ?_)
  ((refine Tr.step rfl ?_))
  refine Exec.callP rfl (prequire_n _) (List.Perm.refl _) rfl (fun v M' A' hm hR => hR.elim) (fun ch M' A' hm hR => ?_)
  obtain ⟨rfl, rfl, rfl⟩ := hR
  (repeat ((with_reducible refine Tr.then_panic ?_)))
  exact Tr.doneP (A' := []) (hm1.trans hm) (by repeat (first | exact DropL.refl | apply DropL.skip)) ⟨rfl, rfl, fun h => by have := hq2.2 h.2.2.1.2; cases this⟩
 | true =>
 (refine rQ ?_)
 ((refine Tr.step rfl ?_)); refine Exec.call0 rfl (prequire_y M1) rfl ?_
 rintro _ _ _ rfl
 (refine rQ ?_)
 ((refine Tr.step rfl ?_)); refine Exec.call0 rfl (bpossible_fn M1 (mkF w k k.reqs) As' Ar' Af' Ad' cs' cr' cf' cd' g1 g2 g3 g4 (okT_vld hok)) rfl ?_
 rintro _ _ _ ⟨⟨q3, rfl, hq3⟩, rfl⟩
 have hpb : pbB (mkF w k k.reqs) = pbB k := by
  unfold pbB
  rw [hq1.1 rfl]
  rfl
 rw [hpb] at hq3
 cases q3 with
 | false =>
  (skip)
  ((refine Tr.step rfl ?_))
  refine Exec.callP rfl (prequire_n _) (List.Perm.refl _) rfl (fun v M' A' hm hR => hR.elim) (fun ch M' A' hm hR => ?_)
  obtain ⟨rfl, rfl, rfl⟩ := hR
  (skip)
  exact Tr.doneP (A' := []) (hm1.trans hm) (by repeat (first | exact DropL.refl | apply DropL.skip)) ⟨rfl, rfl, fun h => by have := hq3.2 h.2.2.2; cases this⟩
 | true =>
 (skip)
 ((refine Tr.step rfl ?_)); refine Exec.call0 rfl (prequire_y M1) rfl ?_
 rintro _ _ _ rfl
 (repeat ((with_reducible refine Tr.nil ?_)))
 refine Tr.ofPost ?_
 (refine Tr.done (by first | exact .inl rfl | exact .inr rfl) rfl (by repeat (exact RVs.nil)) (by first | exact Mem.le.refl _ | assumption) (by exact ⟨[_, _, _, _, _, _], rfl⟩) ⟨rfl, ?_⟩)
 exact ⟨⟨hnr, hns⟩, hok, ⟨hq1.1 rfl, hq2.1 rfl⟩, hq3.1 rfl⟩
end Go.Proofs.YtlifjajcmnkhfaaGreat

/-
 Promises: attempt and ask.
 Conditions: none.
-/
namespace Go.Proofs.YtlifjajcmnkhfaaGreat
open Go Bf
attribute [local irreducible] Tr Exec Stab HasTy Go.Addr.add IntKind.wrap
def prDone (e : Int) : List PanicEntry := [{ v := .iface 49 (.int .i64 e), recovered := true }]
set_option maxHeartbeats 1000000 in
theorem patt_panic (M : Mem) (b2 : Nat) (e0 : Value) (e : Int) :
  CD Tryz.prog 81 [.pointer (some ⟨b2, 0, none⟩)] (.panicking (prCh e)) M [box b2 49 [e0]]
   (fun u' M' A' => u' = .panicking (prDone e) ∧ M = M' ∧ A' = [box b2 49 [.int .i64 e]]) := by
 refine CD.intro1 Tryz.func81 rfl rfl Tryz.ntmps81 rfl rfl (v := .iface 49 (.int .i64 e)) (.inl ⟨[], rfl, rfl⟩) fun E F => ?_
 (repeat (first | ((with_reducible refine Tr.step rfl ?_); (first | (refine xmQ ?_) | (refine xaQ ?_) | ((with_reducible refine Knd.binOp ?_); (refine Exec.stab rfl (Stab.ifaceeq rfl (tysOk.get rfl) rfl) rfl ?_)) | (refine xSQ ?_) | ((with_reducible refine Knd.typeAssert ?_); (refine Exec.stab rfl (Stab.assertY rfl (tysOk.get rfl) rfl) rfl ?_)) | ((with_reducible refine Knd.extract ?_); (refine Exec.stab rfl (Stab.extract rfl rfl) rfl ?_)))) | (with_reducible first | apply Tr.next | apply Tr.seq | apply Tr.region | apply Tr.nil | apply Tr.block | apply Tr.in_normal) | (refine Tr.cond_bt rfl (by (with_reducible rfl)) ?_) | (refine Tr.cond_bf rfl (by (with_reducible rfl)) ?_)))
 refine Tr.doneC (by first | exact .inl rfl | exact .inr rfl) rfl (by repeat (exact RVs.nil)) (Mem.le.refl _) DropL.refl ⟨rfl, rfl, rfl⟩
set_option maxHeartbeats 1000000 in
theorem patt_idle (M : Mem) (b2 : Nat) (A : List Res) :
  CD Tryz.prog 81 [.pointer (some ⟨b2, 0, none⟩)] .returning M A
   (fun u' M' A' => u' = .returning ∧ M = M' ∧ A' = A) := by
 refine CD.intro1 Tryz.func81 rfl rfl Tryz.ntmps81 rfl rfl (v := .nilIface) (.inr ⟨rfl, rfl, rfl⟩) fun E F => ?_
 (repeat (first | ((with_reducible refine Tr.step rfl ?_); (first | (refine xaQ ?_) | ((with_reducible refine Knd.binOp ?_); (refine Exec.stab rfl (Stab.nileq rfl (tysOk.get rfl) rfl) rfl ?_)))) | (with_reducible first | apply Tr.next | apply Tr.seq | apply Tr.region | apply Tr.nil | apply Tr.block | apply Tr.in_normal) | (refine Tr.cond_bt rfl (by (with_reducible rfl)) ?_)))
 refine Tr.doneC (by first | exact .inl rfl | exact .inr rfl) rfl (by repeat (exact RVs.nil)) (Mem.le.refl _) DropL.refl ⟨rfl, rfl, rfl⟩
set_option maxHeartbeats 2000000 in
theorem pattempt_fn (M : Mem) (g : FuncId) (cap : List Value) (A : List Res) (R : Value → Mem → List Res → Prop) (RP : Int → Mem → List Res → Prop) (hg : FnP Tryz.prog g cap M A R (fun ch M' A' => ∃ e, ch = prCh e ∧ RP e M' A')) :
  Bf.Fn Tryz.prog 43 [.func (.func g) #[] cap.toArray] M A (fun r M' A' => (r = .int .i64 0 ∧ ∃ v, R v M' A') ∨ ∃ e, r = .int .i64 e ∧ RP e M' A') := by
 refine Fn.introD Tryz.func43 rfl rfl Tryz.ntmps43 rfl fun E F => ?_
 (repeat (first | ((with_reducible refine Tr.step rfl ?_); (first | ((with_reducible refine Knd.makeFunc ?_); (refine Exec.stab rfl (Stab.makeFunc rfl rfl) rfl ?_)) | ((with_reducible refine Knd.alloc ?_); (refine Exec.alloc1 (tysOk.get rfl) rfl rfl rfl (fun b => ?_))))) | (with_reducible first | apply Tr.next | apply Tr.seq | apply Tr.region | apply Tr.nil)))
 refine Tr.step rfl ?_
 refine Exec.defer (first := []) (vs := []) rfl rfl ?_
 (refine rQ ?_)
 ((refine Tr.step rfl ?_))
 refine Exec.callPv (first := []) (cap := cap) (vs := []) (A := A) (F := box b 49 [.int .i64 0] :: F) rfl rfl (by simpa using hg) List.perm_middle rfl (fun v M' A' hm hR => ?_) (fun ch M' A' hm hR => ?_)
 rotate_left
 ·obtain ⟨e, rfl, hR⟩ := hR
  (repeat ((with_reducible refine Tr.then_panic ?_)))
  refine Tr.panicD (vs0 := []) (cap := [.pointer (some ⟨b, 0, none⟩)]) (A := [box b 49 [.int .i64 0]]) (F1 := A' ++ F) (patt_panic M' b _ e) (show (box b 49 [.int .i64 0] :: (A' ++ F)).Perm (A' ++ box b 49 [.int .i64 0] :: F) from List.perm_middle.symm) rfl ?_
  rintro u' M'' A'' hm' ⟨rfl, rfl, rfl⟩
  exact ⟨rfl, _, (by repeat (first | exact RVs.nil | (apply RVs.cons; (exact RV.cell (by rfl) (tysOk.get (by rfl)) (by rfl) (by repeat (first | exact Has.here | apply Has.there)))))), hm, [box b 49 [.int .i64 e]], A', List.Perm.refl _, .inr ⟨e, rfl, hR⟩⟩
 refine Tr.reorder List.perm_middle.symm ?_
 (refine rQ ?_)
 refine Tr.doneD (vs0 := []) (cap := [.pointer (some ⟨b, 0, none⟩)]) (A := []) (by first | exact .inl rfl | exact .inr rfl) (patt_idle M' b []) (List.Perm.refl _) rfl ?_
 rintro u' M'' A'' hm' ⟨rfl, rfl, rfl⟩
 exact ⟨rfl, _, (by repeat (first | exact RVs.nil | (apply RVs.cons; (exact RV.cell (by rfl) (tysOk.get (by rfl)) (by rfl) (by repeat (first | exact Has.here | apply Has.there)))))), hm, [box b 49 [.int .i64 0]], A', List.Perm.refl _, .inl ⟨rfl, v, hR⟩⟩
end Go.Proofs.YtlifjajcmnkhfaaGreat

/-
 Promises: ask.
 Conditions: none.
-/
namespace Go.Proofs.YtlifjajcmnkhfaaGreat
open Go Bf
attribute [local irreducible] Tr Exec Stab HasTy Go.Addr.add IntKind.wrap
noncomputable def cutB (w : Wd) (k : Bp) (r : Rq) : List Int := memF (cutFin (fitsT w k.known k.sups (k.reqs ++ [r])) (amS k.sups) (amR (k.reqs ++ [r]))) (amR (k.reqs ++ [r])).length
noncomputable def confF (w : Wd) (k : Bp) (r : Rq) : List Int := (cutB w k r).map fun j => ((k.reqs ++ [r]).map (·.no)).getD j.toNat 0
def AskR (w : Wd) (k : Bp) (r : Rq) (x a : Value) (M : Mem) : Prop :=
 ∃ D cd, SlOf 5 RRd M (.slice D (readsF w k.sups [r]).length cd) (readsF w k.sups [r]) ∧
  ((Feas (pbW w k.known k.sups (k.reqs ++ [r])) ∧ RBp M x (more w k r) ∧ ∃ al A c, LexMax (pbW w k.known k.sups (k.reqs ++ [r])) al ∧ a = .agg #[.bool true, .slice A (allocOf al (amR (k.reqs ++ [r])).length (amS k.sups).length).length c, .slice none 0 0, .slice D (readsF w k.sups [r]).length cd] ∧ Ints2 M (.slice A (allocOf al (amR (k.reqs ++ [r])).length (amS k.sups).length).length c) (allocOf al (amR (k.reqs ++ [r])).length (amS k.sups).length)) ∨
  (¬ Feas (pbW w k.known k.sups (k.reqs ++ [r])) ∧ RBp M x k ∧ ∃ B c, a = .agg #[.bool false, .slice none 0 0, .slice B (confF w k r).length c, .slice D (readsF w k.sups [r]).length cd] ∧ Ints M (.slice B (confF w k r).length c) (confF w k r)))
theorem ask1_fn (M : Mem) (b5 : Nat) (r y : Rq) (hb : (box b5 46 [.int .i64 r.no, .int .i64 r.item, .int .i64 r.cust, .int .i64 r.due, .int .i64 r.shelf, .int .i64 r.amount]).ok M) : Fn0 Tryz.prog 86 ([.agg #[.int .i64 y.no, .int .i64 y.item, .int .i64 y.cust, .int .i64 y.due, .int .i64 y.shelf, .int .i64 y.amount]] ++ [.pointer (some ⟨b5, 0, none⟩)]) M (fun v M' => v = .bool (decide (y.no = r.no)) ∧ M = M') := by
 have hrow := Row.of_box (n := 1) (sz := 6) hb (by simp) (by intro u hu; simp at hu; rcases hu with rfl | rfl | rfl | rfl | rfl | rfl <;> rfl)
 have hat2 := (hrow.pos (by decide)).2
 refine Fn.intro Tryz.func86 rfl rfl Tryz.ntmps86 rfl fun E F => ?_
 simp only [List.cons_append, List.nil_append]
 (repeat (first | ((with_reducible refine Tr.step rfl ?_); (first | (refine xaQ ?_) | ((with_reducible refine Knd.load ?_); (first | (refine xlQ ?_) | (refine xMQ ?_))) | (refine xfQ ?_) | (refine xiQ ?_) | ((with_reducible refine Knd.box ?_); (refine Exec.box rfl rfl (fun b => ?_))))) | (with_reducible first | apply Tr.next | apply Tr.seq | apply Tr.region | apply Tr.nil | apply Tr.ret)))
 (refine dnQ (hL := by exact ⟨[_], rfl⟩) ⟨rfl, ?_⟩)
 exact ⟨rfl, rfl⟩
theorem askc_lend (M : Mem) (b5 : Nat) (r : Rq) (A : Option Addr) (c : Nat) (l : List Rq) (hl : SlOf 6 RRqC M (.slice A l.length c) l) :
  Bf.Fn Tryz.prog 54 [.slice A l.length c, .func (.func 86) #[] #[.pointer (some ⟨b5, 0, none⟩)]] M [box b5 46 [.int .i64 r.no, .int .i64 r.item, .int .i64 r.cust, .int .i64 r.due, .int .i64 r.shelf, .int .i64 r.amount]] (fun v M' A' => A' = [box b5 46 [.int .i64 r.no, .int .i64 r.item, .int .i64 r.cust, .int .i64 r.due, .int .i64 r.shelf, .int .i64 r.amount]] ∧ M = M' ∧ v = .bool (l.any fun y => decide (y.no = r.no))) :=
 Fn.lend (rs := [box b5 46 [.int .i64 r.no, .int .i64 r.item, .int .i64 r.cust, .int .i64 r.due, .int .i64 r.shelf, .int .i64 r.amount]]) (R := fun v => v = .bool (l.any fun y => decide (y.no = r.no))) (clone_ok _ _ _ _ _ _ (containsR_fn M none 0 [] (SlOf.nil _ _ _) 0 [] (fun _ => false) (by simp))) (fun M' hm hok =>
  containsR_fn M' A c l (hl.mono RRqC.mono hm) 86 [.pointer (some ⟨b5, 0, none⟩)] (fun y => decide (y.no = r.no)) (fun y _ => ask1_fn M' b5 r y (hok _ (by simp))))
set_option maxHeartbeats 16000000 in
set_option maxRecDepth 20000 in
theorem ask_fn (M : Mem) (ws : List Value) (w : Wd) (hw : RWd M ws w) (k : Bp) (As Ar Af Ad : Option Addr) (cs cr cf cd : Nat) (h1 : SlOf 6 RSpC M (.slice As k.sups.length cs) k.sups) (h2 : SlOf 6 RRqC M (.slice Ar k.reqs.length cr) k.reqs) (h3 : Fits2 M (.slice Af k.fits.length cf) k.fits) (h4 : SlOf 5 RRd M (.slice Ad k.rds.length cd) k.rds) (hv : okB w k) (r : Rq) :
  FnP Tryz.prog 46 [.agg ws.toArray, .agg #[.int .i64 k.known, .slice As k.sups.length cs, .slice Ar k.reqs.length cr, .slice Af k.fits.length cf, .slice Ad k.rds.length cd], .agg #[.int .i64 r.no, .int .i64 r.item, .int .i64 r.cust, .int .i64 r.due, .int .i64 r.shelf, .int .i64 r.amount]] M [] (fun v M' A' => A' = [] ∧ askE w k r = 0 ∧ ∃ x a, v = .tuple #[x, a] ∧ AskR w k r x a M') (fun ch _ A' => ∃ e, ch = prCh e ∧ A' = [] ∧ askE w k r = e ∧ e ≠ 0) := by
 have h11 := hw.len
 have hl1 := h1.len_le
 have hl2 := h2.len_le
 have l64 := hv.2.1.1
 refine FnP.intro Tryz.func46 rfl rfl Tryz.ntmps46 rfl fun E F => ?_
 (repeat (first | ((with_reducible refine Tr.step rfl ?_); (first | (refine xlQ ?_) | (refine xfQ ?_) | ((with_reducible refine Knd.makeFunc ?_); (refine Exec.stab rfl (Stab.makeFunc rfl rfl) rfl ?_)) | ((with_reducible refine Knd.box ?_); (refine Exec.box rfl rfl (fun b => ?_))) | ((with_reducible refine Knd.alloc ?_); (refine Exec.alloc (tysOk.get rfl) rfl rfl (fun b => ?_))))) | (with_reducible first | apply Tr.next | apply Tr.seq | apply Tr.region | apply Tr.nil)))
 rename_i b3 b4 b5 b6
 generalize b = b7
 ((refine Tr.step rfl ?_))
 refine Exec.call (A := [box b5 46 [.int .i64 r.no, .int .i64 r.item, .int .i64 r.cust, .int .i64 r.due, .int .i64 r.shelf, .int .i64 r.amount]]) rfl (askc_lend M b5 r Ar cr k.reqs h2) (take1 (by repeat (first | exact Del.here | apply Del.there))) rfl ?_
 rintro _ _ _ _ ⟨rfl, rfl, rfl⟩
 by_cases hno : r.no ∈ k.reqs.map (·.no)
 ·have e : (k.reqs.any fun y => decide (y.no = r.no)) = true := by
   rw [List.any_eq_true]
   obtain ⟨y, hy, hyn⟩ := List.mem_map.1 hno
   exact ⟨y, hy, by simpa using hyn⟩
  rw [e]
  (refine rQ ?_)
  ((refine Tr.step rfl ?_))
  refine Exec.callP rfl (prequire_n _) (List.Perm.refl _) rfl (fun v M' A' hm hR => hR.elim) (fun ch M' A' hm hR => ?_)
  obtain ⟨rfl, rfl, rfl⟩ := hR
  (repeat ((with_reducible refine Tr.then_panic ?_)))
  exact Tr.doneP (A' := []) hm (by repeat (first | exact DropL.refl | apply DropL.skip)) ⟨310, rfl, rfl, by rw [askE, if_neg (fun h => h hv), if_pos hno], by decide⟩
 have e : (k.reqs.any fun y => decide (y.no = r.no)) = false := by
  rw [List.any_eq_false]
  intro y hy
  simp only [decide_eq_true_eq]
  exact fun h => hno (List.mem_map.2 ⟨y, hy, h⟩)
 rw [e]
 (refine rQ ?_)
 ((refine Tr.step rfl ?_)); refine Exec.call0 rfl (prequire_y M) rfl ?_
 rintro _ _ _ rfl
 (repeat (first | ((with_reducible refine Tr.step rfl ?_); (with_reducible refine Knd.load ?_); (first | (refine xwQ ?_) | (refine Exec.stab rfl (Stab.loadW rfl (tysOk.get rfl) rfl (by repeat (first | exact Has.here | apply Has.there)) (by assumption)) rfl ?_))) | (with_reducible first | apply Tr.next | apply Tr.seq | apply Tr.region | apply Tr.nil)))
 ((refine Tr.step rfl ?_))
 refine Exec.call (A := []) rfl (maker_fn M ws k As Ar Af Ad cs cr cf cd) (List.Perm.refl _) rfl ?_
 rintro _ _ _ _ ⟨b8, b9, rfl, rfl, rfl⟩
 (refine rQ ?_)
 (((apply Tr.draw (box b5 46 [.int .i64 r.no, .int .i64 r.item, .int .i64 r.cust, .int .i64 r.due, .int .i64 r.shelf, .int .i64 r.amount] :: box b7 76 [.bool false, .slice none 0 0, .slice none 0 0, .slice none 0 0] :: box b6 44 [.int .i64 0, .slice none 0 0, .slice none 0 0, .slice none 0 0, .slice none 0 0] :: box b4 44 [.int .i64 k.known, .slice As k.sups.length cs, .slice Ar k.reqs.length cr, .slice Af k.fits.length cf, .slice Ad k.rds.length cd] :: box b3 38 ws :: ([] ++ F))); (kernel_rfl)); (refine tkQ 0 (s := by exact Stab.move rfl) ?_); (refine tkQ 1 (s := by exact sfQ) ?_); (refine tkQ 4 (s := by exact swQ) ?_); (refine tkQ 2 (s := by exact slQ) ?_))
 ((refine TrM.start2 _ (PA.build1 5 [(33, .agg #[.int .i64 r.no, .int .i64 r.item, .int .i64 r.cust, .int .i64 r.due, .int .i64 r.shelf, .int .i64 r.amount])] rfl (by exact .inl rfl) rfl (tysOk.get rfl) rfl (tysOk.get rfl) rfl rfl rfl rfl rfl (by first | rfl | assumption) rfl) (by exact PA.alloc 11 rfl (tysOk.get rfl) rfl rfl) (by kernel_rfl) (by kernel_rfl) (by kernel_rfl) ?_); (refine TrM.eff 3 rfl (by kernel_rfl) (by exact .inl rfl) (by repeat (first | exact PendOk.nil | refine PendOk.cons rfl (by repeat (first | exact SubFr.nil | refine SubFr.cons rfl ?_)) ?_)) (by exact (Sub.mem (by repeat (first | exact Sub.refl | apply Sub.cons)))) (by repeat (first | apply AppF.cons | exact AppF.nil)) (by repeat (first | apply AppF.cons | exact AppF.app)) (fun Y X => ?_)))
 refine Exec.call (A := []) rfl (cloneRq_fn M Ar cr k.reqs h2 (by omega)) (List.Perm.refl _) rfl ?_
 rintro _ _ _ _ ⟨⟨B6, k6, rfl, hk6, rfl⟩, rfl⟩
 (refine ⟨_, _, (by repeat (first | apply App.cons | exact App.nil | exact App.app)), (by repeat (first | apply App.cons | exact App.nil | exact App.app)), rfl, (by first | exact Mem.le.refl _ | assumption), (by exact (Sub.mem (by repeat (first | exact Sub.refl | apply Sub.cons)))), ?_⟩)
 ((refine TrM.settle (by kernel_rfl) (by repeat (first | exact PendOk.nil | refine PendOk.cons rfl (by repeat (first | exact SubFr.nil | refine SubFr.cons rfl ?_)) ?_)) (by exact (Sub.mem (by repeat (first | exact Sub.refl | apply Sub.cons)))) (fun b => ?_)); dsimp only)
 ((refine TrM.eff 6 rfl (by kernel_rfl) (by exact .inl rfl) (by repeat (first | exact PendOk.nil | refine PendOk.cons rfl (by repeat (first | exact SubFr.nil | refine SubFr.cons rfl ?_)) ?_)) (by exact (Sub.mem (by repeat (first | exact Sub.refl | apply Sub.cons)))) (by repeat (first | apply AppF.cons | exact AppF.nil)) (by repeat (first | apply AppF.cons | exact AppF.app)) (fun Y X => ?_)))
 refine Exec.append (news := rqC r) rfl rfl (tysOk.get rfl) rfl (tysOk.get rfl) rfl rfl rfl rfl (by repeat (first | exact Del.here | apply Del.there)) (Src.box (by repeat (first | exact Has.here | apply Has.there))) rfl (rqC_one _) (by omega) (by omega) rfl (fun A8 c8 hc8 => ?_)
 (refine ⟨_, _, (by repeat (first | apply App.cons | exact App.nil | exact App.app)), (by repeat (first | apply App.cons | exact App.nil | exact App.app)), rfl, (by first | exact Mem.le.refl _ | assumption), (by exact (Sub.mem (by repeat (first | exact Sub.refl | apply Sub.cons)))), ?_⟩)
 rw [show k.reqs.flatMap rqC ++ rqC r = (k.reqs ++ [r]).flatMap rqC by rw [List.flatMap_append]; simp, show k.reqs.length + 1 = (k.reqs ++ [r]).length by simp]
 refine TrM.publish (x := ownS 46 6 _ _ _ _) (by repeat (first | exact Del.here | apply Del.there)) (fun M8 hm8 hok8 => ?_)
 have hm8 : Mem.le M M8 := hm8
 have hR8 : SlOf 6 RRqC M8 (.slice A8 (k.reqs ++ [r]).length c8) (k.reqs ++ [r]) := SlOf.ofOwn hok8 rfl hc8 (rqC_elems _ _)
 ((refine TrM.eff 7 rfl (by kernel_rfl) (by exact .inl rfl) (by repeat (first | exact PendOk.nil | refine PendOk.cons rfl (by repeat (first | exact SubFr.nil | refine SubFr.cons rfl ?_)) ?_)) (by exact (Sub.mem (by repeat (first | exact Sub.refl | apply Sub.cons)))) (by repeat (first | apply AppF.cons | exact AppF.nil)) (by repeat (first | apply AppF.cons | exact AppF.app)) (fun Y X => ?_)))
 refine Exec.callv (first := []) (cap := [.pointer (some ⟨b8, 0, none⟩), .pointer (some ⟨b9, 0, none⟩)]) (A := [box b9 44 [.int .i64 k.known, .slice As k.sups.length cs, .slice Ar k.reqs.length cr, .slice Af k.fits.length cf, .slice Ad k.rds.length cd], box b8 38 ws]) rfl rfl (maker1_fn M8 ws w (hw.mono hm8) k As Ar Af Ad cs cr cf cd (h1.mono RSpC.mono hm8) (h2.mono RRqC.mono hm8) (h3.mono RRowB.mono hm8) (h4.mono RRd.mono hm8) b8 b9 A8 c8 (k.reqs ++ [r]) hR8) (take2 (by repeat (first | exact Del.here | apply Del.there)) (by repeat (first | exact Del.here | apply Del.there))) rfl ?_
 rintro v M1 _ hm1 ⟨rfl, hmk⟩
 (refine ⟨_, _, (by repeat (first | apply App.cons | exact App.nil | exact App.app)), (by repeat (first | apply App.cons | exact App.nil | exact App.app)), rfl, (by first | exact Mem.le.refl _ | assumption), (by exact (Sub.mem (by repeat (first | exact Sub.refl | apply Sub.cons)))), ?_⟩)
 have hm1 := hm8.trans hm1
 rcases hmk with ⟨hnk, rfl⟩ | ⟨hok, x, rfl, As', cs', Ar', cr', Af', cf', Ad', cd', rfl, g1, g2, g3, g4⟩
 ·((refine TrM.take 8 (by kernel_rfl) rfl (by kernel_rfl) (by exact fun _ _ _ h => h) (by exact (Sub.mem (by repeat (first | exact Sub.refl | apply Sub.cons)))) rfl (by first | exact Stab.move rfl) rfl rfl ?_); (refine TrM.take 9 (by kernel_rfl) rfl (by kernel_rfl) (by exact fun _ _ _ h => h) (by exact (Sub.mem (by repeat (first | exact Sub.refl | apply Sub.cons)))) rfl (by first | exact Stab.extract rfl rfl) rfl rfl ?_); (refine TrM.take 10 (by kernel_rfl) rfl (by kernel_rfl) (by exact fun _ _ _ h => h) (by exact (Sub.mem (by repeat (first | exact Sub.refl | apply Sub.cons)))) rfl (by first | exact Stab.extract rfl rfl) rfl rfl ?_); (refine TrM.settle (by kernel_rfl) (by repeat (first | exact PendOk.nil | refine PendOk.cons rfl (by repeat (first | exact SubFr.nil | refine SubFr.cons rfl ?_)) ?_)) (by exact (Sub.mem (by repeat (first | exact Sub.refl | apply Sub.cons)))) (fun b => ?_)); dsimp only; (refine TrM.fin ?_))
  ((refine TrA.eff 12 rfl (by kernel_rfl) (by exact .inl rfl) ?_); (((refine Knd.store ?_); ((refine xWQ ?_)))); (refine ⟨(by first | exact Mem.le.refl _ | assumption), (by exact (Sub.mem (by repeat (first | exact Sub.refl | apply Sub.cons)))), ?_⟩); (refine tkQ 13 (s := by exact Stab.assign rfl) ?_); (refine TrA.done (by kernel_rfl) ?_))
  (refine rQ ?_)
  ((refine Tr.step rfl ?_))
  refine Exec.callP rfl (must_n M1 290 (by decide)) (List.Perm.refl _) rfl (fun v M' A' hm hR => hR.elim) (fun ch M' A' hm hR => ?_)
  obtain ⟨rfl, rfl, rfl⟩ := hR
  (repeat ((with_reducible refine Tr.then_panic ?_)))
  refine Tr.doneP (A' := []) (hm1.trans hm) (by repeat (first | exact DropL.refl | apply DropL.skip)) ⟨290, rfl, rfl, ?_, by decide⟩
  rw [okT_app hv.2.1] at hnk
  rw [askE, if_neg (fun h => h hv), if_neg hno, if_pos]
  by_cases hq : okRq r
  ·have := not_and.1 hnk hq
   exact .inr (by omega)
  ·exact .inl hq
 have hbase : okRq r := hok.2.2 r (by simp)
 have hrl : k.reqs.length + 1 ≤ 64 := by have := hok.1.2; simpa using this
 dsimp only [mkF] at g1 g2 g3 g4 ⊢
 ((refine TrM.take 8 (by kernel_rfl) rfl (by kernel_rfl) (by exact fun _ _ _ h => h) (by exact (Sub.mem (by repeat (first | exact Sub.refl | apply Sub.cons)))) rfl (by first | exact Stab.move rfl) rfl rfl ?_); (refine TrM.take 9 (by kernel_rfl) rfl (by kernel_rfl) (by exact fun _ _ _ h => h) (by exact (Sub.mem (by repeat (first | exact Sub.refl | apply Sub.cons)))) rfl (by first | exact Stab.extract rfl rfl) rfl rfl ?_); (refine TrM.take 10 (by kernel_rfl) rfl (by kernel_rfl) (by exact fun _ _ _ h => h) (by exact (Sub.mem (by repeat (first | exact Sub.refl | apply Sub.cons)))) rfl (by first | exact Stab.extract rfl rfl) rfl rfl ?_); (refine TrM.settle (by kernel_rfl) (by repeat (first | exact PendOk.nil | refine PendOk.cons rfl (by repeat (first | exact SubFr.nil | refine SubFr.cons rfl ?_)) ?_)) (by exact (Sub.mem (by repeat (first | exact Sub.refl | apply Sub.cons)))) (fun b => ?_)); dsimp only; (refine TrM.fin ?_))
 ((refine TrA.eff 12 rfl (by kernel_rfl) (by exact .inl rfl) ?_); (((refine Knd.store ?_); ((refine xWQ ?_)))); (refine ⟨(by first | exact Mem.le.refl _ | assumption), (by exact (Sub.mem (by repeat (first | exact Sub.refl | apply Sub.cons)))), ?_⟩); (refine tkQ 13 (s := by exact Stab.assign rfl) ?_); (refine TrA.done (by kernel_rfl) ?_))
 (refine rQ ?_)
 generalize b = bx
 ((refine Tr.step rfl ?_)); refine Exec.call0 rfl (must_y M1) rfl ?_
 rintro _ _ _ rfl
 (repeat (first | ((with_reducible refine Tr.step rfl ?_); (first | (refine xmQ ?_) | (refine xwQ ?_) | ((with_reducible refine Knd.buildSlice ?_); (refine Exec.buildSlice (tysOk.get rfl) rfl (tysOk.get rfl) rfl rfl rfl rfl rfl (by repeat (first | exact BuildP.nil | ((apply BuildP.many); (rfl); (rfl); (rfl); (rfl); (repeat (first | exact PutL.nil | ((apply PutL.cons); (repeat (first | exact SetL.z | apply SetL.s)))))))) rfl (fun b => ?_))))) | (with_reducible first | apply Tr.next | apply Tr.seq | apply Tr.region | apply Tr.nil)))
 refine pbQ (r := box b 46 _) (fun M2 hm2 hokb => ?_)
 have hokb : (box b 46 (rqC r)).ok M2 := hokb
 have hone : SlOf 6 RRqC M2 (.slice (some ⟨b, 0, none⟩) 1 1) [r] := SlOf.ofBoxC (n := 1) (c := 1) (xs := [r]) hokb rfl rfl (Nat.le_refl _) (by decide) (rqC_one r) (rqC_elems M2 [r])
 have hm02 := hm1.trans hm2
 ((refine Tr.step rfl ?_))
 refine Exec.callv (first := []) (cap := [.pointer (some ⟨b8, 0, none⟩), .pointer (some ⟨b9, 0, none⟩)]) (A := [box b9 44 [.int .i64 k.known, .slice As k.sups.length cs, .slice Ar k.reqs.length cr, .slice Af k.fits.length cf, .slice Ad k.rds.length cd], box b8 38 ws]) rfl rfl (maker1_fn M2 ws w (hw.mono hm02) k As Ar Af Ad cs cr cf cd (h1.mono RSpC.mono hm02) (h2.mono RRqC.mono hm02) (h3.mono RRowB.mono hm02) (h4.mono RRd.mono hm02) b8 b9 (some ⟨b, 0, none⟩) 1 [r] hone) (take2 (by repeat (first | exact Del.here | apply Del.there)) (by repeat (first | exact Del.here | apply Del.there))) rfl ?_
 rintro v M3 _ hm3 ⟨rfl, hmk⟩
 rcases hmk with ⟨hnk, rfl⟩ | ⟨-, x, rfl, A1, c1, A2, c2, A3, c3, D, cD, rfl, -, -, -, hD⟩
 ·exact absurd ⟨⟨hok.1.1, by simp⟩, hok.2.1, fun y hy => by simp at hy; subst hy; exact hbase⟩ hnk
 dsimp only [mkF] at hD ⊢
 (repeat (first | ((with_reducible refine Tr.step rfl ?_); (first | (refine xmQ ?_) | (refine xaQ ?_) | (refine xWQ ?_) | ((with_reducible refine Knd.alloc ?_); (refine Exec.alloc (tysOk.get rfl) rfl rfl (fun b => ?_))) | ((with_reducible refine Knd.extract ?_); (refine Exec.stab rfl (Stab.extract rfl rfl) rfl ?_)))) | (with_reducible first | apply Tr.next | apply Tr.seq | apply Tr.region | apply Tr.nil)))
 ((refine Tr.step rfl ?_)); refine Exec.call0 rfl (must_y M3) rfl ?_
 rintro _ _ _ rfl
 (refine rQ ?_)
 have hm13 := hm2.trans hm3
 have ga : (amR (k.reqs ++ [r])).length = k.reqs.length + 1 := by simp [amR]
 ((refine Tr.step rfl ?_)); refine Exec.call0 rfl (amounts_fn M3 (mkF w k (k.reqs ++ [r])) As' Ar' Af' Ad' cs' cr' cf' cd' (g1.mono RSpC.mono hm13) (g2.mono RRqC.mono hm13) (g3.mono RRowB.mono hm13) (g4.mono RRd.mono hm13) (by show k.sups.length ≤ _; omega) (by show (k.reqs ++ [r]).length ≤ _; simp; omega)) rfl ?_
 rintro _ M4 hm4 ⟨P1, q1, P2, q2, rfl, hI1, hI2⟩
 dsimp only [mkF] at hI1 hI2 ⊢
 (refine rQ ?_)
 have hvld := okT_vld (w := w) (known := k.known) hok
 have rs : I64s (amS k.sups) := fun x hx => by have := hvld.rs x hx; omega
 have rn : I64s (amR (k.reqs ++ [r])) := fun x hx => by have := hvld.rn x hx; omega
 have hm14 := hm13.trans hm4
 ((refine Tr.step rfl ?_)); refine Exec.call0 rfl (flow_fn M4 Af' P1 P2 cf' q1 q2 (fitsT w k.known k.sups (k.reqs ++ [r])) (amS k.sups) (amR (k.reqs ++ [r])) (g3.mono RRowB.mono hm14) hI1 hI2 rs rn) rfl ?_
 have hask : askE w k r = 0 := by rw [askE, if_neg (fun h => h hv), if_neg hno, if_neg (fun h => h.elim (fun h => h hbase) (fun h => by omega))]
 rintro _ M5 hm5 (⟨hbad, -⟩ | ⟨-, hnf, B, kk, rfl, hI⟩ | ⟨-, al, hlex, A9, c9, rfl, hI⟩)
 ·rw [vld_iff.2 hvld] at hbad
  cases hbad
 rotate_left
 ·(refine rQ ?_)
  ((refine Tr.step rfl ?_)); refine Exec.call0 rfl (must_y M5) rfl ?_
  rintro _ _ _ rfl
  (refine rQ ?_)
  refine ftQ (r := box bx 44 _) ?_
  refine ftQ (r := box b7 76 _) ?_
  refine ftQ (r := box b6 44 _) ?_
  (((apply Tr.draw ((box b7 76 _ :: _))); (kernel_rfl)); (refine tkQ 0 (hB := by exact (Sub.mem (by repeat (first | exact Sub.refl | apply Sub.cons)))) (s := by exact swQ) ?_); (refine tkQ 1 (s := by exact swQ) ?_); (refine TrA.eff 2 rfl (by kernel_rfl) (by exact .inl rfl) ?_); (((refine Knd.store ?_); ((refine xWQ ?_)))); (refine ⟨(by first | exact Mem.le.refl _ | assumption), (by exact (Sub.mem (by repeat (first | exact Sub.refl | apply Sub.cons)))), ?_⟩); (refine TrA.effD 3 rfl (by kernel_rfl) (by kernel_rfl) (by exact .inl rfl) ?_); (((refine Knd.store ?_); ((refine xWQ ?_)))); (refine ⟨_, fun _ h => h, ?_⟩); (refine TrA.done (by kernel_rfl) ?_))
  (repeat (first | (with_reducible first | apply Tr.next | apply Tr.ret | apply Tr.then_ret)))
  have hm15 := hm14.trans hm5
  have hm05 := hm1.trans hm15
  have hm35 := hm4.trans hm5
  refine Tr.ofPost ?_
  (refine Tr.done (by first | exact .inl rfl | exact .inr rfl) rfl (by repeat (first | exact RVs.nil | (apply RVs.cons; (exact RV.cellW (by rfl) (tysOk.get (by rfl)) (by rfl) (by repeat (first | exact Has.here | apply Has.there)) (by first | rfl | assumption))))) (by first | exact Mem.le.refl _ | assumption) (by exact ⟨[_, _, _, _, _, _, _, _, _, _], rfl⟩) ⟨rfl, ?_⟩)
  exact ⟨hask, _, _, rfl, D, cD, hD.mono RRd.mono hm35, .inl ⟨⟨al, hlex.1⟩, ⟨As', cs', Ar', cr', Af', cf', Ad', cd', rfl, g1.mono RSpC.mono hm15, g2.mono RRqC.mono hm15, g3.mono RRowB.mono hm15, g4.mono RRd.mono hm15⟩, al, A9, c9, hlex, rfl, hI⟩⟩
 (refine rQ ?_)
 ((refine Tr.step rfl ?_)); refine Exec.call0 rfl (must_y M5) rfl ?_
 rintro _ _ _ rfl
 (refine rQ ?_)
 generalize b = ba
 refine gvQ (r := box ba _ _) ?_
 refine gvQ (r := box b9 _ _) ?_
 refine gvQ (r := box b8 _ _) ?_
 refine gvQ (r := box _ 46 _) ?_
 refine gvQ (r := box b5 _ _) ?_
 refine gvQ (r := box b3 _ _) ?_
 refine Tr.own_nil 3 1 ?_
 have hI : Ints M5 (.slice B (cutB w k r).length kk) (cutB w k r) := hI
 have hcl : (cutB w k r).length ≤ 64 := Nat.le_trans (memF_len _ _) (by omega)
 have hcm : ∀ x ∈ cutB w k r, ∃ n : Nat, n < (k.reqs ++ [r]).length ∧ x = (n : Int) := fun x hx => by
  simp only [cutB, memF, List.mem_map, List.mem_filter, List.mem_range] at hx
  obtain ⟨n, ⟨hn, -⟩, rfl⟩ := hx
  exact ⟨n, by simpa [amR] using hn, rfl⟩
 refine Tr.loop (α := Nat × Option Addr × Nat) (fun y => ⟨96, [(78, .int .i64 (y.1 : Int)), (77, .int .i64 ((cutB w k r).length : Int)), (76, .slice B (cutB w k r).length kk), (9, .pointer (some ⟨bx, 0, none⟩)), (7, .pointer (some ⟨b7, 0, none⟩)), (6, .pointer (some ⟨b6, 0, none⟩)), (4, .pointer (some ⟨b4, 0, none⟩))], [], M5,
   ownS 3 1 y.2.1 y.1 y.2.2 (intV ((confF w k r).take y.1)) :: box bx 44 [.int .i64 k.known, .slice As' k.sups.length cs', .slice Ar' (k.reqs ++ [r]).length cr', .slice Af' (fitsT w k.known k.sups (k.reqs ++ [r])).length cf', .slice Ad' (readsF w k.sups (k.reqs ++ [r])).length cd'] :: box b7 76 [.bool false, .slice none 0 0, .slice y.2.1 y.1 y.2.2, .slice D (readsF w k.sups [r]).length cD] :: box b6 44 [.int .i64 0, .slice none 0 0, .slice none 0 0, .slice none 0 0, .slice none 0 0] :: box b4 44 [.int .i64 k.known, .slice As k.sups.length cs, .slice Ar k.reqs.length cr, .slice Af k.fits.length cf, .slice Ad k.rds.length cd] :: ([] ++ F)⟩)
  (fun y => y.1 ≤ (cutB w k r).length ∧ y.2.2 ≤ 9223372036854775807) (fun y => (cutB w k r).length - y.1) (0, none, 0) ⟨Nat.zero_le _, by simp⟩ hsQ (fun y hy => ?_)
 obtain ⟨i, C, cc⟩ := y
 obtain ⟨hi, hcc⟩ := hy
 simp only at hi hcc
 dsimp only
 have hm15 := hm14.trans hm5
 have hm05 := hm1.trans hm15
 have hm35 := hm4.trans hm5
 by_cases hlt : i < (cutB w k r).length
 ·obtain ⟨x, hx⟩ := get_of_lt hlt
  obtain ⟨hA, hat⟩ := hI.at hx
  obtain ⟨n, hn, rfl⟩ := hcm x (List.mem_of_getElem? hx)
  obtain ⟨y, hy⟩ := get_of_lt hn
  obtain ⟨hA2, ch2, hat2, rfl⟩ := (g2.mono RRqC.mono hm15).elem hy
  have hat3 : At M5 (((Ar'.getD default).add (n * 6)).add 0) [.int .i64 y.no, .int .i64 y.item, .int .i64 y.cust, .int .i64 y.due, .int .i64 y.shelf, .int .i64 y.amount] := hat2.drop 0
  have hcf : (confF w k r).take (i + 1) = (confF w k r).take i ++ [y.no] := by
   unfold confF
   have e2 : ((k.reqs ++ [r]).map (·.no)).getD ((n : Int)).toNat 0 = y.no := by
    rw [List.getD_eq_getElem?_getD, Int.toNat_natCast, List.getElem?_map, hy]; rfl
   rw [← List.map_take, ← List.map_take, nums_take _ hx, e2]
  (refine rQ ?_)
  (((apply Tr.draw ((box bx 44 _ :: _))); (kernel_rfl)); (refine tkQ 0 (hB := by exact (Sub.mem (by repeat (first | exact Sub.refl | apply Sub.cons)))) (s := by exact sfQ) ?_); (refine tkQ 2 (s := by exact sfQ) ?_); (refine tkQ 4 (s := by exact Stab.move rfl) ?_); (refine tkQ 1 (s := by exact slQ) ?_); (refine tkQ 3 (s := by exact slQ) ?_); (refine tkQ 5 (s := by exact sxQ) ?_); (refine tkQ 6 (s := by exact Stab.fieldD rfl (tysOk.get rfl) rfl rfl (tysOk.get rfl) rfl) ?_); (refine tkQ 7 (s := by exact sMQ) ?_); (refine TrA.eff 8 rfl (by kernel_rfl) (by exact .inl rfl) ?_); (((refine Knd.buildSlice ?_); ((refine Exec.buildSlice (tysOk.get rfl) rfl (tysOk.get rfl) rfl rfl rfl rfl rfl (by repeat (first | exact BuildP.nil | ((apply BuildP.one); (rfl); (rfl); (first | rfl | assumption); (repeat (first | exact SetL.z | apply SetL.s))))) rfl (fun b => ?_))))); (refine ⟨(by first | exact Mem.le.refl _ | assumption), (by exact (Sub.mem (by repeat (first | exact Sub.refl | apply Sub.cons)))), ?_⟩); (refine TrA.eff 9 rfl (by kernel_rfl) (by exact .inl rfl) ?_))
  refine Exec.append (news := [.int .i64 y.no]) rfl rfl (tysOk.get rfl) rfl (tysOk.get rfl) rfl rfl rfl rfl (by repeat (first | exact Del.here | apply Del.there)) (Src.box (by repeat (first | exact Has.here | apply Has.there))) rfl (by intro u hu; simp at hu; subst hu; rfl) (by omega) (by omega) rfl (fun C2 cc2 hcc2 => ?_)
  refine ⟨(by first | exact Mem.le.refl _ | assumption), (by exact (Sub.mem (by repeat (first | exact Sub.refl | apply Sub.cons)))), ?_⟩
  ((refine tkQ 10 (s := by exact sfQ) ?_); (refine TrA.effD 11 rfl (by kernel_rfl) (by kernel_rfl) (by exact .inl rfl) ?_); (((refine Knd.store ?_); ((refine xSQ ?_)))); (refine ⟨_, fun _ h => h, ?_⟩); (refine TrA.done (by kernel_rfl) ?_))
  refine gvQ (r := box _ 3 _) ?_
  rw [show intV ((confF w k r).take i) ++ [Value.int .i64 y.no] = intV ((confF w k r).take (i + 1)) by rw [hcf, intV_append]; rfl]
  (refine rQ ?_)
  exact Tr.again (i + 1, C2, cc2) ⟨by simp only; omega, hcc2⟩ (by simp only; omega) hsQ
 have ei : i = (cutB w k r).length := by omega
 subst ei
 have hcfl : (confF w k r).length = (cutB w k r).length := by simp [confF]
 rw [← hcfl, List.take_length]
 refine pbQ (r := ownS 3 1 C _ _ _) (fun M6 hm6 hok6 => ?_)
 have hC : Ints M6 (.slice C (confF w k r).length cc) (confF w k r) := Ints.ofOwn hok6 rfl hcc
 have hm06 := hm05.trans hm6
 have hm36 := hm35.trans hm6
 (refine rQ ?_)
 refine ftQ (r := box b6 44 _) ?_
 (((apply Tr.draw ((box bx 44 _ :: _))); (kernel_rfl)); (refine tkQ 0 (hB := by exact (Sub.mem (by repeat (first | exact Sub.refl | apply Sub.cons)))) (s := by exact swQ) ?_); (refine tkQ 1 (s := by exact swQ) ?_); (refine TrA.eff 2 rfl (by kernel_rfl) (by exact .inl rfl) ?_); (((refine Knd.store ?_); ((refine xWQ ?_)))); (refine ⟨(by first | exact Mem.le.refl _ | assumption), (by exact (Sub.mem (by repeat (first | exact Sub.refl | apply Sub.cons)))), ?_⟩); (refine TrA.effD 3 rfl (by kernel_rfl) (by kernel_rfl) (by exact .inl rfl) ?_); (((refine Knd.store ?_); ((refine xWQ ?_)))); (refine ⟨_, fun _ h => h, ?_⟩); (refine TrA.done (by kernel_rfl) ?_))
 (repeat (first | (with_reducible first | apply Tr.next | apply Tr.ret)))
 refine Tr.ofPost ?_
 (refine Tr.done (by first | exact .inl rfl | exact .inr rfl) rfl (by repeat (first | exact RVs.nil | (apply RVs.cons; (exact RV.cellW (by rfl) (tysOk.get (by rfl)) (by rfl) (by repeat (first | exact Has.here | apply Has.there)) (by first | rfl | assumption))))) (by first | exact Mem.le.refl _ | assumption) (by exact ⟨[_, _, _, _], rfl⟩) ⟨rfl, ?_⟩)
 exact ⟨hask, _, _, rfl, D, cD, hD.mono RRd.mono hm36, .inr ⟨hnf, ⟨As, cs, Ar, cr, Af, cf, Ad, cd, rfl, h1.mono RSpC.mono hm06, h2.mono RRqC.mono hm06, h3.mono RRowB.mono hm06, h4.mono RRd.mono hm06⟩, C, cc, rfl, hC⟩⟩
end Go.Proofs.YtlifjajcmnkhfaaGreat

/-
 Promises: Ask and New.
 Conditions: none.
-/
namespace Go.Proofs.YtlifjajcmnkhfaaGreat
open Go Bf
attribute [local irreducible] Tr Exec Stab HasTy Go.Addr.add IntKind.wrap
theorem RBp.lit {M : Mem} {v : Value} {k : Bp} (h : RBp M v k) : ∃ As cs Ar cr Af cf Ad cd, v = .agg #[.int .i64 k.known, .slice As k.sups.length cs, .slice Ar k.reqs.length cr, .slice Af k.fits.length cf, .slice Ad k.rds.length cd] := by
 obtain ⟨As, cs, Ar, cr, Af, cf, Ad, cd, rfl, -⟩ := h
 exact ⟨As, cs, Ar, cr, Af, cf, Ad, cd, rfl⟩
theorem AskR.lit {w : Wd} {k : Bp} {r : Rq} {x a : Value} {M : Mem} (h : AskR w k r x a M) : ∃ x1 x2 x3 x4 x5 a1 a2 a3 a4, x = .agg #[x1, x2, x3, x4, x5] ∧ a = .agg #[a1, a2, a3, a4] ∧ (x1.oneCell' = true ∧ x2.oneCell' = true ∧ x3.oneCell' = true ∧ x4.oneCell' = true ∧ x5.oneCell' = true) ∧ a1.oneCell' = true ∧ a2.oneCell' = true ∧ a3.oneCell' = true ∧ a4.oneCell' = true := by
 obtain ⟨D, cd, -, ⟨-, hx, al, A, c, -, rfl, -⟩ | ⟨-, hx, B, c, rfl, -⟩⟩ := h <;> obtain ⟨As, cs, Ar, cr, Af, cf, Ad, cd, rfl⟩ := hx.lit <;> exact ⟨_, _, _, _, _, _, _, _, _, rfl, rfl, ⟨rfl, rfl, rfl, rfl, rfl⟩, rfl, rfl, rfl, rfl⟩
def AskV (w : Wd) (k : Bp) (r : Rq) (v : Value) (M : Mem) : Prop :=
 (askE w k r = 0 ∧ okB w k ∧ ∃ x a, v = .tuple #[x, a, .int .i64 0] ∧ AskR w k r x a M) ∨ (askE w k r ≠ 0 ∧ v = .tuple #[.agg #[.int .i64 0, .slice none 0 0, .slice none 0 0, .slice none 0 0, .slice none 0 0], .agg #[.bool false, .slice none 0 0, .slice none 0 0, .slice none 0 0], .int .i64 (askE w k r)])
set_option maxHeartbeats 8000000 in
theorem ask1c_fn (M : Mem) (ws : List Value) (w : Wd) (hw : RWd M ws w) (k : Bp) (As Ar Af Ad : Option Addr) (cs cr cf cd : Nat) (h1 : SlOf 6 RSpC M (.slice As k.sups.length cs) k.sups) (h2 : SlOf 6 RRqC M (.slice Ar k.reqs.length cr) k.reqs) (h3 : Fits2 M (.slice Af k.fits.length cf) k.fits) (h4 : SlOf 5 RRd M (.slice Ad k.rds.length cd) k.rds) (hfc : cf ≤ 9223372036854775807) (r : Rq) (b3 b4 b5 b6 b7 : Nat) :
  FnP Tryz.prog 44 [.pointer (some ⟨b3, 0, none⟩), .pointer (some ⟨b4, 0, none⟩), .pointer (some ⟨b5, 0, none⟩), .pointer (some ⟨b6, 0, none⟩), .pointer (some ⟨b7, 0, none⟩)] M [box b3 38 ws, box b4 44 [.int .i64 k.known, .slice As k.sups.length cs, .slice Ar k.reqs.length cr, .slice Af k.fits.length cf, .slice Ad k.rds.length cd], box b5 46 [.int .i64 r.no, .int .i64 r.item, .int .i64 r.cust, .int .i64 r.due, .int .i64 r.shelf, .int .i64 r.amount], box b6 44 [.int .i64 0, .slice none 0 0, .slice none 0 0, .slice none 0 0, .slice none 0 0], box b7 76 [.bool false, .slice none 0 0, .slice none 0 0, .slice none 0 0]]
   (fun _ M' A' => okB w k ∧ askE w k r = 0 ∧ ∃ x1 x2 x3 x4 x5 a1 a2 a3 a4, AskR w k r (.agg #[x1, x2, x3, x4, x5]) (.agg #[a1, a2, a3, a4]) M' ∧ A' = [box b6 44 [x1, x2, x3, x4, x5], box b7 76 [a1, a2, a3, a4]])
   (fun ch _ A' => ∃ e, ch = prCh e ∧ A' = [box b6 44 [.int .i64 0, .slice none 0 0, .slice none 0 0, .slice none 0 0, .slice none 0 0], box b7 76 [.bool false, .slice none 0 0, .slice none 0 0, .slice none 0 0]] ∧ askE w k r = e ∧ e ≠ 0) := by
 have h11 := hw.len
 refine FnP.intro Tryz.func44 rfl rfl Tryz.ntmps44 rfl fun E F => ?_
 (repeat (first | ((with_reducible refine Tr.step rfl ?_); (with_reducible refine Knd.load ?_); (first | (refine xwQ ?_) | (refine Exec.stab rfl (Stab.loadW rfl (tysOk.get rfl) rfl (by repeat (first | exact Has.here | apply Has.there)) (by assumption)) rfl ?_))) | (with_reducible first | apply Tr.seq | apply Tr.region)))
 ((refine Tr.step rfl ?_))
 refine Exec.callP rfl (check_fn M ws w hw k As Ar Af Ad cs cr cf cd h1 h2 h3 h4 hfc) (List.Perm.refl _) rfl (fun v M' A' hm hR => ?_) (fun ch M' A' hm hR => ?_)
 rotate_left
 ·obtain ⟨rfl, rfl, hn⟩ := hR
  (repeat ((with_reducible refine Tr.then_panic ?_)))
  exact Tr.doneP (A' := [box b6 44 [.int .i64 0, .slice none 0 0, .slice none 0 0, .slice none 0 0, .slice none 0 0], box b7 76 [.bool false, .slice none 0 0, .slice none 0 0, .slice none 0 0]]) hm (by repeat (first | exact DropL.refl | apply DropL.skip)) ⟨310, rfl, rfl, by rw [askE, if_pos hn], by decide⟩
 obtain ⟨rfl, hv⟩ := hR
 (repeat (first | ((with_reducible refine Tr.step rfl ?_); (with_reducible refine Knd.load ?_); (first | (refine xwQ ?_) | (refine Exec.stab rfl (Stab.loadW rfl (tysOk.get rfl) rfl (by repeat (first | exact Has.here | apply Has.there)) (by assumption)) rfl ?_))) | (with_reducible first | apply Tr.next | apply Tr.region | apply Tr.nil)))
 ((refine Tr.step rfl ?_))
 refine Exec.callP rfl (ask_fn M' ws w (hw.mono hm) k As Ar Af Ad cs cr cf cd (h1.mono RSpC.mono hm) (h2.mono RRqC.mono hm) (h3.mono RRowB.mono hm) (h4.mono RRd.mono hm) hv r) (List.Perm.refl _) rfl (fun v M2 A' hm2 hR => ?_) (fun ch M2 A' hm2 hR => ?_)
 rotate_left
 ·obtain ⟨e, rfl, rfl, he, hne⟩ := hR
  (skip)
  exact Tr.doneP (A' := [box b6 44 [.int .i64 0, .slice none 0 0, .slice none 0 0, .slice none 0 0, .slice none 0 0], box b7 76 [.bool false, .slice none 0 0, .slice none 0 0, .slice none 0 0]]) (hm.trans hm2) (by repeat (first | exact DropL.refl | apply DropL.skip)) ⟨e, rfl, rfl, he, hne⟩
 obtain ⟨rfl, hask, x, a, rfl, hR⟩ := hR
 obtain ⟨x1, x2, x3, x4, x5, a1, a2, a3, a4, rfl, rfl, ⟨o1, o2, o3, o4, o5⟩, o6, o7, o8, o9⟩ := hR.lit
 (refine rQ ?_)
 refine Tr.ofPost ?_
 refine Tr.doneB (A' := [box b6 44 [x1, x2, x3, x4, x5], box b7 76 [a1, a2, a3, a4]]) [_, _, _] (by first | exact .inl rfl | exact .inr rfl) rfl (by repeat (exact RVs.nil)) (hm.trans hm2) (List.Perm.refl _) ⟨hv, hask, x1, x2, x3, x4, x5, a1, a2, a3, a4, hR, rfl⟩
set_option maxHeartbeats 8000000 in
theorem askA_fn (M : Mem) (ws : List Value) (w : Wd) (hw : RWd M ws w) (v : Value) (k : Bp) (hk : RBp M v k) (_ : k.fits.length ≤ 9223372036854775807) (r : Rq) :
  Fn0 Tryz.prog 17 [.agg ws.toArray, v, .agg #[.int .i64 r.no, .int .i64 r.item, .int .i64 r.cust, .int .i64 r.due, .int .i64 r.shelf, .int .i64 r.amount]] M (fun v M' => AskV w k r v M') := by
 have h11 := hw.len
 obtain ⟨As, cs, Ar, cr, Af, cf, Ad, cd, rfl, h1, h2, h3, h4⟩ := hk
 have hfc2 := fits_cap h3
 refine Fn.intro Tryz.func17 rfl rfl Tryz.ntmps17 rfl fun E F => ?_
 (repeat (first | ((with_reducible refine Tr.step rfl ?_); (first | (refine xaQ ?_) | ((with_reducible refine Knd.makeFunc ?_); (refine Exec.stab rfl (Stab.makeFunc rfl rfl) rfl ?_)) | ((with_reducible refine Knd.box ?_); (refine Exec.box rfl rfl (fun b => ?_))) | ((with_reducible refine Knd.alloc ?_); (refine Exec.alloc (tysOk.get rfl) rfl rfl (fun b => ?_))))) | (with_reducible first | apply Tr.next | apply Tr.seq | apply Tr.region | apply Tr.nil)))
 rename_i b3 b4 b5 b6
 generalize b = b7
 ((refine Tr.step rfl ?_))
 refine Exec.call (A := [box b3 38 ws, box b4 44 [.int .i64 k.known, .slice As k.sups.length cs, .slice Ar k.reqs.length cr, .slice Af k.fits.length cf, .slice Ad k.rds.length cd], box b5 46 [.int .i64 r.no, .int .i64 r.item, .int .i64 r.cust, .int .i64 r.due, .int .i64 r.shelf, .int .i64 r.amount], box b6 44 [.int .i64 0, .slice none 0 0, .slice none 0 0, .slice none 0 0, .slice none 0 0], box b7 76 [.bool false, .slice none 0 0, .slice none 0 0, .slice none 0 0]]) rfl (pattempt_fn M 44 [.pointer (some ⟨b3, 0, none⟩), .pointer (some ⟨b4, 0, none⟩), .pointer (some ⟨b5, 0, none⟩), .pointer (some ⟨b6, 0, none⟩), .pointer (some ⟨b7, 0, none⟩)] _ _ (fun e _ A' => A' = [box b6 44 [.int .i64 0, .slice none 0 0, .slice none 0 0, .slice none 0 0, .slice none 0 0], box b7 76 [.bool false, .slice none 0 0, .slice none 0 0, .slice none 0 0]] ∧ askE w k r = e ∧ e ≠ 0) (ask1c_fn M ws w hw k As Ar Af Ad cs cr cf cd h1 h2 h3 h4 hfc2.2 r b3 b4 b5 b6 b7)) (take5 (by repeat (first | exact Del.here | apply Del.there)) (by repeat (first | exact Del.here | apply Del.there)) (by repeat (first | exact Del.here | apply Del.there)) (by repeat (first | exact Del.here | apply Del.there)) (by repeat (first | exact Del.here | apply Del.there))) rfl ?_
 rintro _ M1 A' hm (⟨rfl, -, hv, hask, x1, x2, x3, x4, x5, a1, a2, a3, a4, hR, rfl⟩ | ⟨e, rfl, rfl, he, hne⟩)
 ·simp only [List.cons_append, List.nil_append]
  obtain ⟨y1, y2, y3, y4, y5, z1, z2, z3, z4, e1, e2, ⟨o1, o2, o3, o4, o5⟩, o6, o7, o8, o9⟩ := hR.lit
  injection e1 with e1
  injection e2 with e2
  simp only [Array.mk.injEq, List.cons.injEq, and_true] at e1 e2
  obtain ⟨rfl, rfl, rfl, rfl, rfl⟩ := e1
  obtain ⟨rfl, rfl, rfl, rfl⟩ := e2
  (refine rQ ?_)
  (((apply Tr.draw); (kernel_rfl)); (refine tkQ 0 (hB := by exact fun _ h => h) (s := by exact swQ) ?_); (refine tkQ 1 (s := by exact swQ) ?_); (refine tkQ 2 (s := by exact Stab.move rfl) ?_); (refine TrA.eff 3 rfl (by kernel_rfl) (by exact .inl rfl) ?_); (((refine Knd.store ?_); ((refine xWQ ?_)))); (refine ⟨(by first | exact Mem.le.refl _ | assumption), (by exact fun _ h => h), ?_⟩); (refine TrA.eff 4 rfl (by kernel_rfl) (by exact .inl rfl) ?_); (((refine Knd.store ?_); ((refine xWQ ?_)))); (refine ⟨(by first | exact Mem.le.refl _ | assumption), (by exact fun _ h => h), ?_⟩); (refine tkQ 5 (s := by exact Stab.assign rfl) ?_); (refine TrA.done (by kernel_rfl) ?_))
  (repeat (first | (with_reducible first | apply Tr.next | apply Tr.ret)))
  (refine Tr.done (by first | exact .inl rfl | exact .inr rfl) rfl (by repeat (first | exact RVs.nil | (apply RVs.cons; (first | exact RV.tmp rfl | exact RV.cellW (by rfl) (tysOk.get (by rfl)) (by rfl) (by repeat (first | exact Has.here | apply Has.there)) (by first | rfl | assumption))))) (by first | exact Mem.le.refl _ | assumption) (by exact ⟨[_, _], rfl⟩) ⟨rfl, ?_⟩)
  exact .inl ⟨hask, hv, _, _, rfl, hR⟩
 ·simp only [List.cons_append, List.nil_append]
  (refine rQ ?_)
  (((apply Tr.draw); (kernel_rfl)); (refine tkQ 0 (hB := by exact fun _ h => h) (s := by exact swQ) ?_); (refine tkQ 1 (s := by exact swQ) ?_); (refine tkQ 2 (s := by exact Stab.move rfl) ?_); (refine TrA.eff 3 rfl (by kernel_rfl) (by exact .inl rfl) ?_); (((refine Knd.store ?_); ((refine xWQ ?_)))); (refine ⟨(by first | exact Mem.le.refl _ | assumption), (by exact fun _ h => h), ?_⟩); (refine TrA.eff 4 rfl (by kernel_rfl) (by exact .inl rfl) ?_); (((refine Knd.store ?_); ((refine xWQ ?_)))); (refine ⟨(by first | exact Mem.le.refl _ | assumption), (by exact fun _ h => h), ?_⟩); (refine tkQ 5 (s := by exact Stab.assign rfl) ?_); (refine TrA.done (by kernel_rfl) ?_))
  (repeat (first | (with_reducible first | apply Tr.next | apply Tr.ret)))
  (refine Tr.done (by first | exact .inl rfl | exact .inr rfl) rfl (by repeat (first | exact RVs.nil | (apply RVs.cons; (first | exact RV.tmp rfl | exact RV.cellW (by rfl) (tysOk.get (by rfl)) (by rfl) (by repeat (first | exact Has.here | apply Has.there)) (by first | rfl | assumption))))) (by first | exact Mem.le.refl _ | assumption) (by exact ⟨[_, _], rfl⟩) ⟨rfl, ?_⟩)
  exact .inr ⟨he ▸ hne, by rw [he]; rfl⟩
end Go.Proofs.YtlifjajcmnkhfaaGreat

/-
 Promises: New. Refusals: amounts and Least.
 Conditions: none.
-/
namespace Go.Proofs.YtlifjajcmnkhfaaGreat
open Go Bf
attribute [local irreducible] Tr Exec Stab HasTy Go.Addr.add IntKind.wrap
def bkN (known : Int) (s : List Sp) : Bp := ⟨known, s, [], [], []⟩
def NewV (w : Wd) (s : List Sp) (known : Int) (v : Value) (M : Mem) : Prop :=
 (¬ okT s [] ∧ v = .tuple #[.agg #[.int .i64 0, .slice none 0 0, .slice none 0 0, .slice none 0 0, .slice none 0 0], .int .i64 290]) ∨ (okT s [] ∧ ¬ (s.map (·.no)).Nodup ∧ v = .tuple #[.agg #[.int .i64 0, .slice none 0 0, .slice none 0 0, .slice none 0 0, .slice none 0 0], .int .i64 310]) ∨
 (okT s [] ∧ (s.map (·.no)).Nodup ∧ ∃ x, v = .tuple #[x, .int .i64 0] ∧ RBp M x (mkF w (bkN known s) []))
set_option maxHeartbeats 8000000 in
theorem new_fn (M : Mem) (ws : List Value) (w : Wd) (hw : RWd M ws w) (As : Option Addr) (cs : Nat) (s : List Sp) (hs : SlOf 6 RSpC M (.slice As s.length cs) s) (known : Int) :
  Fn0 Tryz.prog 16 [.agg ws.toArray, .slice As s.length cs, .int .i64 known] M (fun v M' => NewV w s known v M') := by
 have h11 := hw.len
 refine Fn.intro Tryz.func16 rfl rfl Tryz.ntmps16 rfl fun E F => ?_
 (repeat (first | ((with_reducible refine Tr.step rfl ?_); (first | (refine xmQ ?_) | (refine xaQ ?_) | ((with_reducible refine Knd.load ?_); (refine Exec.stab rfl (Stab.loadW rfl (tysOk.get rfl) rfl (by repeat (first | exact Has.here | apply Has.there)) (by assumption)) rfl ?_)) | ((with_reducible refine Knd.box ?_); (refine Exec.box rfl rfl (fun b => ?_))) | ((with_reducible refine Knd.alloc ?_); (refine Exec.alloc (tysOk.get rfl) rfl rfl (fun b => ?_))) | ((with_reducible refine Knd.build ?_); (refine Exec.stab rfl (Stab.build tysOk rfl rfl rfl rfl (by repeat (first | exact BuildP.nil | ((apply BuildP.one); (rfl); (rfl); (first | rfl | assumption); (repeat (first | exact SetL.z | apply SetL.s)))))) rfl ?_)))) | (with_reducible first | apply Tr.next | apply Tr.seq | apply Tr.region | apply Tr.nil)))
 rename_i b3
 generalize b = b6
 ((refine Tr.step rfl ?_))
 refine Exec.call (A := []) rfl (maker_fn M ws (bkN known s) As none none none cs 0 0 0) (List.Perm.refl _) rfl ?_
 rintro _ _ _ _ ⟨b8, b9, rfl, rfl, rfl⟩
 (skip)
 ((refine Tr.step rfl ?_))
 refine Exec.callv (first := []) (cap := [.pointer (some ⟨b8, 0, none⟩), .pointer (some ⟨b9, 0, none⟩)]) (A := [box b9 44 [.int .i64 known, .slice As s.length cs, .slice none 0 0, .slice none 0 0, .slice none 0 0], box b8 38 ws]) rfl rfl (maker1_fn M ws w hw (bkN known s) As none none none cs 0 0 0 hs (SlOf.nil _ _ _) (SlOf.nil _ _ _) (SlOf.nil _ _ _) b8 b9 none 0 [] (SlOf.nil _ _ _)) (take2 (by repeat (first | exact Del.here | apply Del.there)) (by repeat (first | exact Del.here | apply Del.there))) rfl ?_
 rintro v M1 _ hm1 ⟨rfl, hmk⟩
 rcases hmk with ⟨hnk, rfl⟩ | ⟨hok, x, rfl, As', cs', Ar', cr', Af', cf', Ad', cd', rfl, g1, g2, g3, g4⟩
 ·(repeat (first | ((with_reducible refine Tr.step rfl ?_); (first | (refine xmQ ?_) | (refine xaQ ?_) | (refine xiQ ?_) | (refine xWQ ?_) | ((with_reducible refine Knd.extract ?_); (refine Exec.stab rfl (Stab.extract rfl rfl) rfl ?_)) | ((with_reducible refine Knd.build ?_); (refine Exec.stab rfl (Stab.build tysOk rfl rfl rfl rfl (by repeat (exact BuildP.nil))) rfl ?_)))) | (with_reducible first | apply Tr.next | apply Tr.seq | apply Tr.region | apply Tr.nil | apply Tr.ret | apply Tr.then_ret) | (refine Tr.cond_t rfl (by first | (with_reducible assumption) | omega) ?_)))
  (refine Tr.done (by first | exact .inl rfl | exact .inr rfl) rfl (by repeat (first | exact RVs.nil | (apply RVs.cons; (first | exact RV.tmp rfl | exact RV.cellW (by rfl) (tysOk.get (by rfl)) (by rfl) (by repeat (first | exact Has.here | apply Has.there)) (by first | rfl | assumption))))) (by first | exact Mem.le.refl _ | assumption) (by exact ⟨[_, _, _, _], rfl⟩) ⟨rfl, ?_⟩)
  exact .inl ⟨hnk, rfl⟩
 dsimp only [mkF] at g1 g2 g3 g4 ⊢
 (refine rQ ?_)
 ((refine Tr.step rfl ?_)); refine Exec.call0 rfl (twins_fn M1 As cs s (hs.mono RSpC.mono hm1)) rfl ?_
 rintro _ _ _ ⟨⟨tw, rfl, htw⟩, rfl⟩
 cases tw with
 | true =>
  (repeat (first | ((with_reducible refine Tr.step rfl ?_); (first | (refine xaQ ?_) | (refine xWQ ?_) | ((with_reducible refine Knd.build ?_); (refine Exec.stab rfl (Stab.build tysOk rfl rfl rfl rfl (by repeat (exact BuildP.nil))) rfl ?_)))) | (with_reducible first | apply Tr.next | apply Tr.seq | apply Tr.region | apply Tr.nil | apply Tr.ret | apply Tr.then_ret) | (refine Tr.cond_bt rfl (by (with_reducible rfl)) ?_)))
  (refine Tr.done (by first | exact .inl rfl | exact .inr rfl) rfl (by repeat (first | exact RVs.nil | (apply RVs.cons; (first | exact RV.tmp rfl | exact RV.cellW (by rfl) (tysOk.get (by rfl)) (by rfl) (by repeat (first | exact Has.here | apply Has.there)) (by first | rfl | assumption))))) (by first | exact Mem.le.refl _ | assumption) (by exact ⟨[_, _, _, _], rfl⟩) ⟨rfl, ?_⟩)
  exact .inr (.inl ⟨hok, fun h => (by have := htw.2 h; cases this), rfl⟩)
 | false =>
  (refine rQ ?_)
  (refine Tr.done (by first | exact .inl rfl | exact .inr rfl) rfl (by repeat (first | exact RVs.nil | (apply RVs.cons; (first | exact RV.tmp rfl | exact RV.cellW (by rfl) (tysOk.get (by rfl)) (by rfl) (by repeat (first | exact Has.here | apply Has.there)) (by first | rfl | assumption))))) (by first | exact Mem.le.refl _ | assumption) (by exact ⟨[_, _, _, _], rfl⟩) ⟨rfl, ?_⟩)
  exact .inr (.inr ⟨hok, htw.1 rfl, _, rfl, As', cs', Ar', cr', Af', cf', Ad', cd', rfl, g1, g2, g3, g4⟩)
set_option maxHeartbeats 8000000 in
theorem ramounts_fn (M : Mem) (s : List Sp) (r : List Rq) (As Ar : Option Addr) (cs cr : Nat) (h1 : SlOf 6 RSpC M (.slice As s.length cs) s) (h2 : SlOf 6 RRqC M (.slice Ar r.length cr) r) (hs64 : s.length ≤ 1000000) (hr64 : r.length ≤ 1000000) :
  Fn0 Tryz.prog 23 [.slice As s.length cs, .slice Ar r.length cr] M (fun v M' => ∃ A1 c1 A2 c2, v = .tuple #[.slice A1 (amS s).length c1, .slice A2 (amR r).length c2] ∧ Ints M' (.slice A1 (amS s).length c1) (amS s) ∧ Ints M' (.slice A2 (amR r).length c2) (amR r)) := by
 refine Fn.intro Tryz.func23 rfl rfl Tryz.ntmps23 rfl fun E F => ?_
 (refine rQ ?_)
 refine Tr.own_nil 3 1 ?_
 refine Tr.loop (α := Nat × Option Addr × Nat) (fun y => ⟨36, [(12, .int .i64 (y.1 : Int)), (11, .int .i64 (s.length : Int)), (10, .slice As s.length cs), (4, .slice y.2.1 y.1 y.2.2), (5, .slice none 0 0), (1, .slice Ar r.length cr)], [], M, ownS 3 1 y.2.1 y.1 y.2.2 (intV ((s.take y.1).map (·.amount))) :: ([] ++ F)⟩)
  (fun y => y.1 ≤ s.length ∧ y.2.2 ≤ 9223372036854775807) (fun y => s.length - y.1) (0, none, 0) ⟨Nat.zero_le _, by simp⟩ hsQ (fun y hy => ?_)
 obtain ⟨i, A1, c1⟩ := y
 obtain ⟨hi, hc1⟩ := hy
 simp only at hi hc1
 dsimp only
 by_cases hlt : i < s.length
 ·obtain ⟨y, hy⟩ := get_of_lt hlt
  obtain ⟨hA, ch, hat, rfl⟩ := h1.elem hy
  simp only [spC] at hat
  have e1 := nums_take (·.amount) hy
  (repeat (first | ((with_reducible refine Tr.step rfl ?_); (first | (refine xmQ ?_) | ((with_reducible refine Knd.load ?_); (first | (refine xlQ ?_) | (refine Exec.stab rfl (Stab.loadMA rfl (tysOk.get rfl) rfl (by assumption) (by first | rfl | assumption)) rfl ?_))) | (refine xfQ ?_) | (refine xiQ ?_) | (refine xWQ ?_) | ((with_reducible refine Knd.alloc ?_); (refine Exec.alloc (tysOk.get rfl) rfl rfl (fun b => ?_))) | (refine xxQ ?_) | ((with_reducible refine Knd.buildSlice ?_); (refine Exec.buildSlice (tysOk.get rfl) rfl (tysOk.get rfl) rfl rfl rfl rfl rfl (by repeat (first | exact BuildP.nil | ((apply BuildP.one); (rfl); (rfl); (first | rfl | assumption); (repeat (first | exact SetL.z | apply SetL.s))))) rfl (fun b => ?_))))) | (with_reducible first | apply Tr.next | apply Tr.seq | apply Tr.region | apply Tr.nil | apply Tr.skip | apply Tr.block) | (refine Tr.cond_t rfl (by first | (with_reducible assumption) | omega) ?_)))
  ((refine Tr.step rfl ?_))
  refine Exec.append (news := [.int .i64 y.amount]) rfl rfl (tysOk.get rfl) rfl (tysOk.get rfl) rfl rfl rfl rfl (by repeat (first | exact Del.here | apply Del.there)) (Src.box (by repeat (first | exact Has.here | apply Has.there))) rfl (by intro u hu; simp at hu; subst hu; rfl) (by omega) (by omega) rfl (fun A3 c3 hc3 => ?_)
  refine gvQ (r := box b 3 _) ?_
  rw [show intV ((s.take i).map (·.amount)) ++ [Value.int .i64 y.amount] = intV ((s.take (i + 1)).map (·.amount)) by rw [e1, intV_append]; rfl]
  (refine rQ ?_)
  refine gvQ (r := box _ 73 _) ?_
  exact Tr.again (i + 1, A3, c3) ⟨by simp only; omega, hc3⟩ (by simp only; omega) hsQ
 have ei : i = s.length := by omega
 subst ei
 rw [List.take_length]
 (refine rQ ?_)
 refine Tr.own_nil 3 1 ?_
 refine Tr.loop (α := Nat × Option Addr × Nat) (fun y => ⟨36, [(24, .int .i64 (y.1 : Int)), (23, .int .i64 (r.length : Int)), (22, .slice Ar r.length cr), (5, .slice y.2.1 y.1 y.2.2), (4, .slice A1 s.length c1)], [], M, ownS 3 1 y.2.1 y.1 y.2.2 (intV ((r.take y.1).map (·.amount))) :: ownS 3 1 A1 s.length c1 (intV (s.map (·.amount))) :: ([] ++ F)⟩)
  (fun y => y.1 ≤ r.length ∧ y.2.2 ≤ 9223372036854775807) (fun y => r.length - y.1) (0, none, 0) ⟨Nat.zero_le _, by simp⟩ hsQ (fun y hy => ?_)
 obtain ⟨i, A2, c2⟩ := y
 obtain ⟨hi, hc2⟩ := hy
 simp only at hi hc2
 dsimp only
 by_cases hlt : i < r.length
 ·obtain ⟨y, hy⟩ := get_of_lt hlt
  obtain ⟨hA, ch, hat, rfl⟩ := h2.elem hy
  simp only [rqC] at hat
  have e1 := nums_take (·.amount) hy
  (repeat (first | ((with_reducible refine Tr.step rfl ?_); (first | (refine xmQ ?_) | ((with_reducible refine Knd.load ?_); (first | (refine xlQ ?_) | (refine Exec.stab rfl (Stab.loadMA rfl (tysOk.get rfl) rfl (by assumption) (by first | rfl | assumption)) rfl ?_))) | (refine xfQ ?_) | (refine xiQ ?_) | (refine xWQ ?_) | ((with_reducible refine Knd.alloc ?_); (refine Exec.alloc (tysOk.get rfl) rfl rfl (fun b => ?_))) | (refine xxQ ?_) | ((with_reducible refine Knd.buildSlice ?_); (refine Exec.buildSlice (tysOk.get rfl) rfl (tysOk.get rfl) rfl rfl rfl rfl rfl (by repeat (first | exact BuildP.nil | ((apply BuildP.one); (rfl); (rfl); (first | rfl | assumption); (repeat (first | exact SetL.z | apply SetL.s))))) rfl (fun b => ?_))))) | (with_reducible first | apply Tr.next | apply Tr.seq | apply Tr.region | apply Tr.nil | apply Tr.skip | apply Tr.block) | (refine Tr.cond_t rfl (by first | (with_reducible assumption) | omega) ?_)))
  ((refine Tr.step rfl ?_))
  refine Exec.append (news := [.int .i64 y.amount]) rfl rfl (tysOk.get rfl) rfl (tysOk.get rfl) rfl rfl rfl rfl (by repeat (first | exact Del.here | apply Del.there)) (Src.box (by repeat (first | exact Has.here | apply Has.there))) rfl (by intro u hu; simp at hu; subst hu; rfl) (by omega) (by omega) rfl (fun A3 c3 hc3 => ?_)
  refine gvQ (r := box b 3 _) ?_
  rw [show intV ((r.take i).map (·.amount)) ++ [Value.int .i64 y.amount] = intV ((r.take (i + 1)).map (·.amount)) by rw [e1, intV_append]; rfl]
  (refine rQ ?_)
  refine gvQ (r := box _ 46 _) ?_
  exact Tr.again (i + 1, A3, c3) ⟨by simp only; omega, hc3⟩ (by simp only; omega) hsQ
 have ei : i = r.length := by omega
 subst ei
 rw [List.take_length]
 refine pbQ (r := ownS 3 1 A2 _ _ _) (fun M2 hm2 hok => ?_)
 refine pbQ (r := ownS 3 1 A1 _ _ _) (fun M3 hm3 hok2 => ?_)
 have hI1 : Ints M3 (.slice A1 (amS s).length c1) (amS s) := Ints.ofOwn hok2 (by simp [amS]) hc1
 have hI2 : Ints M3 (.slice A2 (amR r).length c2) (amR r) := (Ints.ofOwn hok (by simp) hc2).mono RI.mono hm3
 have hmm := hm2.trans hm3
 rw [show s.length = (amS s).length by simp [amS], show r.length = (amR r).length by simp [amR]]
 (refine rQ ?_)
 (refine dnQ (hL := by exact ⟨[], rfl⟩) ⟨rfl, ?_⟩)
 exact ⟨_, _, _, _, rfl, hI1, hI2⟩
end Go.Proofs.YtlifjajcmnkhfaaGreat

/-
 Refusals: Least, and slices' functions on keys.
 Conditions: none.
-/
namespace Go.Proofs.YtlifjajcmnkhfaaGreat
open Go Bf
attribute [local irreducible] Tr Exec Stab HasTy Go.Addr.add IntKind.wrap
noncomputable def leF (w : Wd) (k : Bp) (r : Rq) : List Int := (confF w k r).filter fun n => decide (n ≠ r.no)
def LeastV (w : Wd) (k : Bp) (r : Rq) (v : Value) (M : Mem) : Prop :=
 (askE w k r ≠ 0 ∧ v = .tuple #[.slice none 0 0, .int .i64 (askE w k r)]) ∨
 (askE w k r = 0 ∧ okB w k ∧ Feas (pbW w k.known k.sups (k.reqs ++ [r])) ∧ v = .tuple #[.slice none 0 0, .int .i64 320]) ∨
 (askE w k r = 0 ∧ okB w k ∧ ¬ Feas (pbW w k.known k.sups (k.reqs ++ [r])) ∧ ∃ B c, v = .tuple #[.slice B (leF w k r).length c, .int .i64 0] ∧ Ints M (.slice B (leF w k r).length c) (leF w k r))
theorem conf_len {w : Wd} {k : Bp} {r : Rq} (h : okB w k) : (confF w k r).length ≤ 65 := by
 have h1 : (confF w k r).length = (cutB w k r).length := by simp [confF]
 have h2 : (cutB w k r).length ≤ (amR (k.reqs ++ [r])).length := memF_len _ _
 have h3 : (amR (k.reqs ++ [r])).length = k.reqs.length + 1 := by simp [amR]
 have := h.2.1.1.2
 omega
set_option maxHeartbeats 8000000 in
set_option maxRecDepth 20000 in
theorem least_fn (M : Mem) (ws : List Value) (w : Wd) (hw : RWd M ws w) (v : Value) (k : Bp) (hk : RBp M v k) (r : Rq) :
  Fn0 Tryz.prog 7 [.agg ws.toArray, v, .agg #[.int .i64 r.no, .int .i64 r.item, .int .i64 r.cust, .int .i64 r.due, .int .i64 r.shelf, .int .i64 r.amount]] M (fun v M' => LeastV w k r v M') := by
 have h11 := hw.len
 have hk0 := hk
 obtain ⟨As, cs, Ar, cr, Af, cf, Ad, cd, rfl, h1, h2, h3, h4⟩ := hk
 have hl3 := h3.len_le
 refine Fn.intro Tryz.func7 rfl rfl Tryz.ntmps7 rfl fun E F => ?_
 (repeat (first | ((with_reducible refine Tr.step rfl ?_); (first | (refine xaQ ?_) | ((with_reducible refine Knd.load ?_); (first | (refine xwQ ?_) | (refine Exec.stab rfl (Stab.loadW rfl (tysOk.get rfl) rfl (by repeat (first | exact Has.here | apply Has.there)) (by assumption)) rfl ?_))) | ((with_reducible refine Knd.box ?_); (refine Exec.box rfl rfl (fun b => ?_))))) | (with_reducible first | apply Tr.next | apply Tr.seq | apply Tr.region | apply Tr.nil)))
 rename_i b3 b4
 generalize b = b5
 ((refine Tr.step rfl ?_)); refine Exec.call0 rfl (askA_fn M ws w hw _ k hk0 hl3 r) rfl ?_
 rintro _ M1 hm1 (⟨hask, hv, x, a, rfl, D, cD, hD, hR⟩ | ⟨hne, rfl⟩)
 rotate_left
 ·(repeat (first | ((with_reducible refine Tr.step rfl ?_); (first | (refine xmQ ?_) | (refine xaQ ?_) | (refine xiQ ?_) | (refine xWQ ?_) | ((with_reducible refine Knd.alloc ?_); (refine Exec.alloc (tysOk.get rfl) rfl rfl (fun b => ?_))) | ((with_reducible refine Knd.extract ?_); (refine Exec.stab rfl (Stab.extract rfl rfl) rfl ?_)))) | (with_reducible first | apply Tr.next | apply Tr.seq | apply Tr.region | apply Tr.nil | apply Tr.ret | apply Tr.then_ret) | (refine Tr.cond_t rfl (by (with_reducible assumption)) ?_)))
  (refine dnQ (hL := by exact ⟨[_, _, _, _, _], rfl⟩) ⟨rfl, ?_⟩)
  exact .inl ⟨hne, rfl⟩
 rcases hR with ⟨hF, hx, al, A9, c9, hlex, rfl, hI⟩ | ⟨hF, hx, B, kk, rfl, hI⟩
 ·obtain ⟨As', cs', Ar', cr', Af', cf', Ad', cd', rfl⟩ := hx.lit
  (repeat (first | ((with_reducible refine Tr.step rfl ?_); (first | (refine xmQ ?_) | (refine xaQ ?_) | (refine xlQ ?_) | (refine xfQ ?_) | (refine xiQ ?_) | (refine xWQ ?_) | ((with_reducible refine Knd.alloc ?_); (refine Exec.alloc (tysOk.get rfl) rfl rfl (fun b => ?_))) | ((with_reducible refine Knd.extract ?_); (refine Exec.stab rfl (Stab.extract rfl rfl) rfl ?_)))) | (with_reducible first | apply Tr.next | apply Tr.seq | apply Tr.region | apply Tr.nil | apply Tr.skip | apply Tr.ret | apply Tr.then_ret) | (refine Tr.cond_bt rfl (by (with_reducible rfl)) ?_) | (refine Tr.cond_f rfl (by (with_reducible exact (not_not_intro rfl))) ?_)))
  (refine dnQ (hL := by exact ⟨[_, _, _, _, _], rfl⟩) ⟨rfl, ?_⟩)
  exact .inr (.inl ⟨hask, hv, ⟨al, hlex.1⟩, rfl⟩)
 obtain ⟨As', cs', Ar', cr', Af', cf', Ad', cd', rfl⟩ := hx.lit
 have hcl := conf_len (r := r) hv
 (repeat (first | ((with_reducible refine Tr.step rfl ?_); (first | (refine xmQ ?_) | (refine xaQ ?_) | (refine xlQ ?_) | (refine xfQ ?_) | (refine xnQ ?_) | (refine xiQ ?_) | (refine xWQ ?_) | ((with_reducible refine Knd.alloc ?_); (refine Exec.alloc (tysOk.get rfl) rfl rfl (fun b => ?_))) | ((with_reducible refine Knd.extract ?_); (refine Exec.stab rfl (Stab.extract rfl rfl) rfl ?_)))) | (with_reducible first | apply Tr.next | apply Tr.seq | apply Tr.region | apply Tr.nil | apply Tr.skip | apply Tr.block) | (refine Tr.cond_bf rfl (by (with_reducible rfl)) ?_) | (refine Tr.cond_f rfl (by first | (with_reducible assumption) | (with_reducible exact (not_not_intro rfl))) ?_)))
 refine gvQ (r := box _ 76 _) ?_
 refine Tr.own_nil 3 1 ?_
 refine ftQ (r := box b5 46 _) ?_
 refine ftQ (r := ownS 3 1 _ _ _ _) ?_
 refine Tr.loop (α := Nat × Option Addr × Nat) (fun y => ⟨42, [(28, .int .i64 (y.1 : Int)), (27, .int .i64 ((confF w k r).length : Int)), (26, .slice B (confF w k r).length kk), (6, .slice y.2.1 (((confF w k r).take y.1).filter fun n => decide (n ≠ r.no)).length y.2.2), (5, .pointer (some ⟨b5, 0, none⟩))], [], M1, ownS 3 1 y.2.1 (((confF w k r).take y.1).filter fun n => decide (n ≠ r.no)).length y.2.2 (intV (((confF w k r).take y.1).filter fun n => decide (n ≠ r.no))) :: box b5 46 [.int .i64 r.no, .int .i64 r.item, .int .i64 r.cust, .int .i64 r.due, .int .i64 r.shelf, .int .i64 r.amount] :: (box _ 44 _ :: box b4 44 [.int .i64 k.known, .slice As k.sups.length cs, .slice Ar k.reqs.length cr, .slice Af k.fits.length cf, .slice Ad k.rds.length cd] :: box b3 38 ws :: ([] ++ F))⟩)
  (fun y => y.1 ≤ (confF w k r).length ∧ y.2.2 ≤ 9223372036854775807) (fun y => (confF w k r).length - y.1) (0, none, 0) ⟨Nat.zero_le _, by simp⟩ hsQ (fun y hy => ?_)
 obtain ⟨i, C, cc⟩ := y
 obtain ⟨hi, hcc⟩ := hy
 simp only at hi hcc
 dsimp only
 have hfl : (((confF w k r).take i).filter fun n => decide (n ≠ r.no)).length ≤ i := Nat.le_trans (List.length_filter_le _ _) (by simp; omega)
 by_cases hlt : i < (confF w k r).length
 ·obtain ⟨x, hx⟩ := get_of_lt hlt
  obtain ⟨hA, hat⟩ := hI.at hx
  have htk : ((confF w k r).take (i + 1)).filter (fun n => decide (n ≠ r.no)) = ((confF w k r).take i).filter (fun n => decide (n ≠ r.no)) ++ if x ≠ r.no then [x] else [] := by
   rw [List.take_add_one, hx, Option.toList_some, List.filter_append]
   by_cases h : x = r.no <;> simp [h]
  by_cases hxn : x ≠ r.no
  ·rw [if_pos hxn] at htk
   (repeat (first | ((with_reducible refine Tr.step rfl ?_); (first | (refine xmQ ?_) | (refine xaQ ?_) | ((with_reducible refine Knd.load ?_); (first | (refine xlQ ?_) | (refine xMQ ?_))) | (refine xfQ ?_) | (refine xiQ ?_) | (refine xxQ ?_) | ((with_reducible refine Knd.buildSlice ?_); (refine Exec.buildSlice (tysOk.get rfl) rfl (tysOk.get rfl) rfl rfl rfl rfl rfl (by repeat (first | exact BuildP.nil | ((apply BuildP.one); (rfl); (rfl); (first | rfl | assumption); (repeat (first | exact SetL.z | apply SetL.s))))) rfl (fun b => ?_))))) | (with_reducible first | apply Tr.next | apply Tr.seq | apply Tr.region | apply Tr.nil | apply Tr.skip | apply Tr.block) | (refine Tr.cond_t rfl (by first | (with_reducible assumption) | omega) ?_)))
   ((refine Tr.step rfl ?_))
   refine Exec.append (news := [.int .i64 x]) rfl rfl (tysOk.get rfl) rfl (tysOk.get rfl) rfl rfl rfl rfl (by repeat (first | exact Del.here | apply Del.there)) (Src.box (by repeat (first | exact Has.here | apply Has.there))) rfl (by intro u hu; simp at hu; subst hu; rfl) (by omega) (by omega) rfl (fun C2 cc2 hcc2 => ?_)
   refine gvQ (r := box _ 3 _) ?_
   rw [show intV (((confF w k r).take i).filter fun n => decide (n ≠ r.no)) ++ [Value.int .i64 x] = intV (((confF w k r).take (i + 1)).filter fun n => decide (n ≠ r.no)) by rw [htk, intV_append]; rfl, show (((confF w k r).take i).filter fun n => decide (n ≠ r.no)).length + 1 = (((confF w k r).take (i + 1)).filter fun n => decide (n ≠ r.no)).length by rw [htk, List.length_append]; rfl]
   (refine rQ ?_)
   exact Tr.again (i + 1, C2, cc2) ⟨by simp only; omega, hcc2⟩ (by simp only; omega) hsQ
  ·rw [if_neg hxn, List.append_nil] at htk
   rw [← htk]
   (refine rQ ?_)
   exact Tr.again (i + 1, C, cc) ⟨by simp only; omega, hcc⟩ (by simp only; omega) hsQ
 have ei : i = (confF w k r).length := by omega
 subst ei
 rw [List.take_length]
 refine pbQ (r := ownS 3 1 C _ _ _) (fun M6 hm6 hok6 => ?_)
 have hm06 := hm1.trans hm6
 (refine rQ ?_)
 (refine dnQ (hL := by exact ⟨[_, _, _, _], rfl⟩) ⟨rfl, ?_⟩)
 exact .inr (.inr ⟨hask, hv, hF, C, cc, rfl, Ints.ofOwn hok6 rfl hcc⟩)
set_option maxHeartbeats 4000000 in
theorem indexKy_fn (M : Mem) (A : Option Addr) (c : Nat) (l : List Ky) (x : Ky) (h : SlOf 3 RKy M (.slice A l.length c) l) :
  Fn0 Tryz.prog 70 [.slice A l.length c, .agg #[.int .i64 x.1, .int .i64 x.2.1, .int .i64 x.2.2]] M (fun r M' => (∃ z : Int, r = .int .i64 z ∧ ((0 ≤ z ∧ x ∈ l) ∨ (z = -1 ∧ x ∉ l))) ∧ M = M') := by
 have hll := h.len_le
 refine Fn.intro Tryz.func70 rfl rfl Tryz.ntmps70 rfl fun E F => ?_
 (repeat (first | ((with_reducible refine Tr.step rfl ?_); (first | (refine xmQ ?_) | (refine xaQ ?_) | (refine xnQ ?_) | ((with_reducible refine Knd.box ?_); (refine Exec.box rfl rfl (fun b => ?_))))) | (with_reducible first | apply Tr.next | apply Tr.seq | apply Tr.region | apply Tr.nil | apply Tr.block)))
 generalize b = b3
 refine Tr.loop (α := Nat) (fun y => ⟨19, [(8, .int .i64 (y : Int)), (7, .int .i64 (l.length : Int)), (6, .slice A l.length c), (4, .int .i64 0), (0, .slice A l.length c), (3, .pointer (some ⟨b3, 0, none⟩))], [], M, box b3 64 [.int .i64 x.1, .int .i64 x.2.1, .int .i64 x.2.2] :: ([] ++ F)⟩)
  (fun y => y ≤ l.length ∧ ∀ t u, t < y → l[t]? = some u → u ≠ x) (fun y => l.length - y) 0 ⟨Nat.zero_le _, fun t _ ht => by omega⟩ hsQ (fun i hi => ?_)
 obtain ⟨hi, hall⟩ := hi
 by_cases hlt : i < l.length
 ·obtain ⟨y, hy⟩ := get_of_lt hlt
  obtain ⟨hA, ch, hat, rfl⟩ := h.elem hy
  simp only [kyC] at hat
  have hxy : x = y ↔ [x.1, x.2.1, x.2.2] = [y.1, y.2.1, y.2.2] := by
   obtain ⟨x1, x2, x3⟩ := x
   obtain ⟨y1, y2, y3⟩ := y
   simp
  by_cases hk : [x.1, x.2.1, x.2.2] = [y.1, y.2.1, y.2.2]
  ·(refine rQ ?_)
   (((apply Tr.draw); (kernel_rfl)); (refine tkQ 0 (hB := by exact fun _ h => h) (s := by exact swQ) ?_); (refine tkQ 1 (s := by exact Stab.move rfl) ?_); (refine tkQ 2 (s := by exact Stab.move rfl) ?_); (refine tkQ 3 (s := by exact sxQ) ?_); (refine tkQ 4 (s := by exact Stab.loadMA rfl (tysOk.get rfl) rfl (by assumption) (by first | rfl | assumption)) ?_); (refine tkQ 5 (s := by exact Stab.steqL rfl rfl (by repeat (first | exact IntsL.nil | apply IntsL.cons)) (by repeat (first | exact IntsL.nil | apply IntsL.cons)) (tysOk.get rfl) rfl (by kernel_rfl) (by kernel_rfl) rfl rfl) ?_); (refine TrA.done (by kernel_rfl) ?_))
   (refine rQ ?_)
   (refine dnQ (hL := by exact ⟨[_], rfl⟩) ⟨rfl, ?_⟩)
   exact ⟨⟨i, rfl, .inl ⟨by omega, by rw [hxy.2 hk]; exact List.mem_of_getElem? hy⟩⟩, rfl⟩
  ·(refine rQ ?_)
   (((apply Tr.draw); (kernel_rfl)); (refine tkQ 0 (hB := by exact fun _ h => h) (s := by exact swQ) ?_); (refine tkQ 1 (s := by exact Stab.move rfl) ?_); (refine tkQ 2 (s := by exact Stab.move rfl) ?_); (refine tkQ 3 (s := by exact sxQ) ?_); (refine tkQ 4 (s := by exact Stab.loadMA rfl (tysOk.get rfl) rfl (by assumption) (by first | rfl | assumption)) ?_); (refine tkQ 5 (s := by exact Stab.steqL rfl rfl (by repeat (first | exact IntsL.nil | apply IntsL.cons)) (by repeat (first | exact IntsL.nil | apply IntsL.cons)) (tysOk.get rfl) rfl (by kernel_rfl) (by kernel_rfl) rfl rfl) ?_); (refine TrA.done (by kernel_rfl) ?_))
   (refine rQ ?_)
   refine Tr.again (i + 1) ⟨by omega, fun t u ht hu => ?_⟩ (by omega) hsQ
   by_cases e : t = i
   ·subst e
    rw [hy] at hu
    cases hu
    exact fun e => hk (hxy.1 e.symm)
   ·exact hall t u (by omega) hu
 ·have e : i = l.length := by omega
  subst e
  (refine rQ ?_)
  (refine dnQ (hL := by exact ⟨[_], rfl⟩) ⟨rfl, ?_⟩)
  refine ⟨⟨-1, rfl, .inr ⟨rfl, fun hm => ?_⟩⟩, rfl⟩
  obtain ⟨t, ht⟩ := List.mem_iff_getElem?.1 hm
  exact hall t x (List.getElem?_eq_some_iff.1 ht).1 ht rfl
theorem containsKy_fn (M : Mem) (A : Option Addr) (c : Nat) (l : List Ky) (x : Ky) (h : SlOf 3 RKy M (.slice A l.length c) l) :
  Fn0 Tryz.prog 32 [.slice A l.length c, .agg #[.int .i64 x.1, .int .i64 x.2.1, .int .i64 x.2.2]] M (fun r M' => r = .bool (decide (x ∈ l)) ∧ M = M') := by
 refine Fn.intro Tryz.func32 rfl rfl Tryz.ntmps32 rfl fun E F => ?_
 (repeat (first | ((with_reducible refine Tr.step rfl ?_); (first | (refine xmQ ?_) | (refine xaQ ?_) | (refine xwQ ?_) | ((with_reducible refine Knd.box ?_); (refine Exec.box rfl rfl (fun b => ?_))))) | (with_reducible first | apply Tr.next | apply Tr.seq | apply Tr.region | apply Tr.nil)))
 ((refine Tr.step rfl ?_)); refine Exec.call0 rfl (indexKy_fn M A c l x h) rfl ?_
 rintro _ _ _ ⟨⟨z, rfl, hz⟩, rfl⟩
 (refine rQ ?_)
 (refine dnQ (hL := by exact ⟨[_], rfl⟩) ⟨rfl, ?_⟩)
 refine ⟨?_, rfl⟩
 rcases hz with ⟨h1, h2⟩ | ⟨rfl, h2⟩
 ·rw [decide_eq_true h2, decide_eq_true h1]; rfl
 ·rw [decide_eq_false h2]; rfl
set_option maxHeartbeats 4000000 in
theorem deleteKy_own (M : Mem) (A : Option Addr) (c : Nat) (l : List Ky) (i : Nat) (hi : i < l.length) (hl : l.length ≤ 1000000) (hc : c ≤ 9223372036854775807) :
  Bf.Fn Tryz.prog 36 [.slice A l.length c, .int .i64 (i : Int), .int .i64 ((i : Int) + 1)] M [ownS 64 3 A l.length c (l.flatMap kyC)] (fun r M' A' => M = M' ∧ r = .slice A (l.length - 1) c ∧ A' = [ownS 64 3 A (l.length - 1) c ((l.eraseIdx i).flatMap kyC)]) := by
 refine Fn.intro Tryz.func36 rfl rfl Tryz.ntmps36 rfl fun E F => ?_
 refine Tr.own_open Del.here (by omega) (fun g cur hA hlc hcl hct => ?_)
 subst hA
 have hlen : l.length * 3 ≤ cur.length := by omega
 (repeat (first | ((with_reducible refine Tr.step rfl ?_); (first | (refine xmQ ?_) | (refine xaQ ?_) | (refine xnQ ?_) | (refine xiQ ?_) | ((with_reducible refine Knd.slice ?_); (refine Exec.stab rfl (Stab.slice_lhm rfl rfl rfl rfl (tysOk.get rfl) rfl (tysOk.get rfl) rfl (by omega) (by omega) (by omega) (by omega)) rfl ?_)))) | (with_reducible first | apply Tr.next | apply Tr.seq | apply Tr.region | apply Tr.nil | apply Tr.skip) | (refine Tr.cond_f rfl (by omega) ?_)))
 obtain ⟨hc1, hc2⟩ := erase_cellsN kyC_len hi hct
 have hone : ∀ u ∈ (cur.drop ((i + 1) * 3)).take ((l.length - (i + 1)) * 3), u.oneCell' = true := fun u hu => by
  have h1 : (cur.drop ((i + 1) * 3)).take ((l.length - (i + 1)) * 3) = (l.flatMap kyC).drop ((i + 1) * 3) := by
   rw [← hct, List.drop_take]
   congr 1
   omega
  rw [h1] at hu
  exact flatMap_one kyC_one l u (List.mem_of_mem_drop hu)
 have e1 : ((i : Int)).toNat = i := Int.toNat_natCast i
 have e2 : ((i : Int) + 1).toNat = i + 1 := by omega
 have e3 : i + (l.length - (i + 1)) = l.length - 1 := by omega
 (((apply Tr.draw); (kernel_rfl)); (refine tkQ 0 (hB := by exact fun _ h => h) (s := by exact Stab.move rfl) ?_); (refine tkQ 1 (s := by exact Stab.move rfl) ?_); (refine tkQ 3 (s := by exact Stab.move rfl) ?_); (refine tkQ 4 (s := by exact Stab.move rfl) ?_); (refine tkQ 2 (s := by exact Stab.slice_h rfl rfl (tysOk.get rfl) rfl (tysOk.get rfl) (by omega) (by omega)) ?_); (refine tkQ 5 (s := by exact Stab.slice_l rfl rfl (tysOk.get rfl) rfl (tysOk.get rfl) rfl (by omega) (by omega)) ?_); (refine TrA.effD 6 rfl (by kernel_rfl) (by kernel_rfl) (by exact .inl rfl) ?_))
 refine Exec.appendInN (sz := 3) (j := i + 1) rfl rfl (by (rw [e2]); split; (exact ⟨_, rfl, .inl (by omega)⟩); (exact ⟨_, rfl, .inr (by simp [Addr.add])⟩)) (tysOk.get rfl) rfl (tysOk.get rfl) rfl (by omega) (by omega) (by omega) (by rw [e2]; exact hone) Upd.here rfl ?_
 refine ⟨_, fun _ h => h, ?_⟩
 rw [e1, e2, e3]
 generalize cur.take (i * 3) ++ (cur.drop ((i + 1) * 3)).take ((l.length - (i + 1)) * 3) ++ cur.drop ((l.length - 1) * 3) = cur2 at hc1 hc2
 clear hct hone
 ((refine tkQ 7 (s := by exact Stab.assign rfl) ?_); (refine TrA.done (by kernel_rfl) ?_))
 (repeat (first | ((with_reducible refine Tr.step rfl ?_); (first | (refine xmQ ?_) | (refine xnQ ?_) | ((with_reducible refine Knd.slice ?_); (refine Exec.stab rfl (Stab.slice_lh rfl rfl rfl (tysOk.get rfl) rfl (tysOk.get rfl) rfl (by omega) (by omega) (by omega)) rfl ?_)))) | (with_reducible first | apply Tr.next | apply Tr.seq | apply Tr.region)))
 have e4 : (((l.length - 1 : Nat) : Int)).toNat = l.length - 1 := Int.toNat_natCast _
 have e5 : ((l.length : Int)).toNat = l.length := Int.toNat_natCast _
 rw [e4, e5]
 ((refine Tr.step rfl ?_))
 refine Exec.clearAtN (o := (l.length - 1) * 3) (m := 1) (cs := cur2) (z := [.int .i64 0, .int .i64 0, .int .i64 0]) (c := c - (l.length - 1)) (by
  rw [if_neg (by omega), show l.length - (l.length - 1) = 1 by omega]
  simp [ev, look_cons_eq, Addr.add]; omega) (tysOk.get rfl) rfl (tysOk.get rfl) rfl rfl (by decide) (by intro u hu; simp only [List.mem_cons, List.not_mem_nil, or_false, or_self] at hu; subst hu; rfl) Upd.here (by simp only [List.length_cons, List.length_nil]; omega) (by omega) ?_
 simp only [List.length_cons, List.length_nil, Nat.zero_add, Nat.reduceAdd]
 have hc3 : (cur2.take ((l.length - 1) * 3) ++ zerosL [.int .i64 0, .int .i64 0, .int .i64 0] 1 ++ cur2.drop ((l.length - 1) * 3 + 1 * 3)).take ((l.length - 1) * 3) = (l.eraseIdx i).flatMap kyC := by
  rw [List.append_assoc, List.take_append_of_le_length (by rw [List.length_take]; omega), List.take_of_length_le (by rw [List.length_take]; omega)]
  exact hc1
 have hc4 : (cur2.take ((l.length - 1) * 3) ++ zerosL [.int .i64 0, .int .i64 0, .int .i64 0] 1 ++ cur2.drop ((l.length - 1) * 3 + 1 * 3)).length = c * 3 := by
  simp only [List.length_append, List.length_take, List.length_drop, zerosL_len, List.length_cons, List.length_nil]; omega
 generalize cur2.take ((l.length - 1) * 3) ++ zerosL [.int .i64 0, .int .i64 0, .int .i64 0] 1 ++ cur2.drop ((l.length - 1) * 3 + 1 * 3) = cur3 at hc3 hc4 ⊢
 refine Tr.box_ownC 3 (l.length - 1) c Upd.here hc4 (by omega) hc hc3 (flatMap_one kyC_one _) ?_
 (refine rQ ?_)
 refine Tr.doneA (A' := [ownS 64 3 (some ⟨g, 0, none⟩) (l.length - 1) c ((l.eraseIdx i).flatMap kyC)]) (by first | exact .inl rfl | exact .inr rfl) rfl (by repeat (first | exact RVs.nil | (apply RVs.cons; (exact RV.tmp rfl)))) (Mem.le.refl _) ⟨fun _ h => h, fun h => h⟩ ⟨rfl, rfl, rfl⟩
end Go.Proofs.YtlifjajcmnkhfaaGreat

/-
 Promises: the days that matter; books whose reads are alike, plain.
 Conditions: none.
-/
namespace Go.Proofs.YtlifjajcmnkhfaaGreat
open Go Bf
theorem foldl_eq {α β : Type} {f g : β → α → β} : ∀ {l : List α} {b : β}, (∀ x ∈ l, ∀ y, f y x = g y x) → l.foldl f b = l.foldl g b
 | [], _, _ => rfl
 | x :: l, b, h => by
  rw [List.foldl_cons, List.foldl_cons, h x (by simp)]
  exact foldl_eq fun y hy => h y (by simp [hy])
theorem mem_addNew {l : List Rd} {x y : Rd} : y ∈ addNew l x ↔ y ∈ l ∨ y = x := by
 unfold addNew
 split
 ·rename_i h
  exact ⟨.inl, fun h2 => h2.elim id fun e => e ▸ h⟩
 ·simp
theorem mem_foldNew {y : Rd} : ∀ {xs l : List Rd}, y ∈ xs.foldl addNew l ↔ y ∈ l ∨ y ∈ xs
 | [], l => by simp
 | x :: xs, l => by
  rw [List.foldl_cons, mem_foldNew, mem_addNew, List.mem_cons]
  exact or_assoc
theorem mem_readsF {w : Wd} {s : List Sp} {r : List Rq} {y : Rd} : y ∈ readsF w s r ↔ ∃ x ∈ s, ∃ z ∈ r, couldF w x z = true ∧ y = lookF x z := by
 unfold readsF
 rw [mem_foldNew]
 simp only [List.not_mem_nil, false_or, List.mem_flatMap, looksR, List.mem_map, List.mem_filter]
 exact ⟨fun ⟨x, hx, z, ⟨hz, hc⟩, e⟩ => ⟨x, hx, z, hz, hc, e.symm⟩, fun ⟨x, hx, z, hz, hc, e⟩ => ⟨x, hx, z, ⟨hz, hc⟩, e.symm⟩⟩
end Go.Proofs.YtlifjajcmnkhfaaGreat

/-
 Refusals: worlds without some keys, and the fewest keys that would have to go, plain.
 Conditions: none.
-/
namespace Go.Proofs.YtlifjajcmnkhfaaGreat
open Go Bf
def withoutF (w : Wd) (ks : List Ky) : Wd := ⟨w.swaps, w.facts.filter fun f => !decide (f.key ∈ ks)⟩
def addK (l : List Ky) (x : Ky) : List Ky := if x ∈ l then l else l ++ [x]
def exclF (w : Wd) (known : Int) (rds : List Rd) : List Ky := ((rds.filter fun y => refusedF w y known).map (·.1)).foldl addK []
noncomputable def cutK (P : List Ky → Prop) : Nat → List Ky → List Ky
 | 0, l => l
 | i + 1, l => open Classical in cutK P i (if P (l.eraseIdx i) then l.eraseIdx i else l)
def meetK (w : Wd) (b : Bp) (r : Rq) (ks : List Ky) : Prop := Feas (pbW (withoutF w ks) b.known b.sups (b.reqs ++ [r]))
theorem withoutF_nil (w : Wd) : withoutF w [] = w := by
 unfold withoutF
 rw [List.filter_eq_self.2 (by simp)]
theorem lastF_without {w : Wd} {ks : List Ky} {k : Ky} {d known : Int} : lastF (withoutF w ks).facts k d known = if k ∈ ks then none else lastF w.facts k d known := by
 unfold lastF withoutF
 simp only [List.foldl_filter]
 generalize w.facts = l
 have hp : ∀ (f : Fc) o, f.key ≠ k → pick k d known o f = o := fun f o h => by
  unfold pick about
  rw [if_neg]
  simp [h]
 split
 ·rename_i h
  induction l with
  | nil => rfl
  | cons f l ih =>
   rw [List.foldl_cons]
   have e : (if (!decide (f.key ∈ ks)) = true then pick k d known none f else none) = none := by
    by_cases hf : f.key = k
    ·rw [if_neg (by simp [hf, h])]
    ·rw [hp f none hf]; simp
   rw [e]
   exact ih
 ·rename_i h
  refine foldl_eq fun f _ o => ?_
  by_cases hf : f.key ∈ ks
  ·rw [if_neg (by simp [hf]), hp f o (fun e => h (e ▸ hf))]
  ·rw [if_pos (by simp [hf])]
theorem refused_without {w : Wd} {ks : List Ky} {y : Rd} {known : Int} : refusedF (withoutF w ks) y known = (!decide (y.1 ∈ ks) && refusedF w y known) := by
 unfold refusedF atF
 rw [lastF_without]
 by_cases h : y.1 ∈ ks
 ·simp [h, valOf]
 ·simp [h]
theorem meetK_mono {w : Wd} {b : Bp} {r : Rq} {ks ks' : List Ky} (h : ∀ k ∈ ks, k ∈ ks') (hm : meetK w b r ks) : meetK w b r ks' := by
 unfold meetK at hm ⊢
 refine Feas.more (p := pbW (withoutF w ks) b.known b.sups (b.reqs ++ [r])) (by simp [pbW, pbOf]) (by simp [pbW, pbOf]) (fun k hk j hj hf => ?_) (fun k hk => Int.le_refl _) (fun j hj => .inl rfl) hm
 simp only [pbW, pbOf, amS, amR, List.length_map] at hk hj hf ⊢
 obtain ⟨x, hx⟩ := get_of_lt hk
 obtain ⟨y, hy⟩ := get_of_lt hj
 rw [fitsT_get hx hy] at hf
 rw [fitsT_get hx hy]
 unfold fitF at hf ⊢
 simp only [refused_without, Bool.and_eq_true, Bool.not_eq_true', Bool.and_eq_false_iff, Bool.not_eq_false', decide_eq_true_eq] at hf ⊢
 refine ⟨hf.1, ?_⟩
 rcases hf.2 with h1 | h1
 ·exact .inl (h _ h1)
 ·exact .inr h1
theorem mem_addK {l : List Ky} {x y : Ky} : y ∈ addK l x ↔ y ∈ l ∨ y = x := by
 unfold addK
 split
 ·rename_i h
  exact ⟨.inl, fun h2 => h2.elim id fun e => e ▸ h⟩
 ·simp
theorem mem_foldK {y : Ky} : ∀ {xs l : List Ky}, y ∈ xs.foldl addK l ↔ y ∈ l ∨ y ∈ xs
 | [], l => by simp
 | x :: xs, l => by
  rw [List.foldl_cons, mem_foldK, mem_addK, List.mem_cons]
  exact or_assoc
theorem mem_exclF {w : Wd} {known : Int} {rds : List Rd} {k : Ky} : k ∈ exclF w known rds ↔ ∃ y ∈ rds, refusedF w y known = true ∧ y.1 = k := by
 unfold exclF
 rw [mem_foldK]
 simp only [List.not_mem_nil, false_or, List.mem_map, List.mem_filter]
 exact ⟨fun ⟨y, ⟨h1, h2⟩, h3⟩ => ⟨y, h1, h2, h3⟩, fun ⟨y, h1, h2, h3⟩ => ⟨y, ⟨h1, h2⟩, h3⟩⟩
theorem cutK_ok {P : List Ky → Prop} : ∀ (n : Nat) {l : List Ky}, P l → P (cutK P n l)
 | 0, _, h => h
 | n + 1, l, h => by
  unfold cutK
  split
  ·rename_i h2; exact cutK_ok n h2
  ·exact cutK_ok n h
theorem cutK_sub {P : List Ky → Prop} : ∀ (n : Nat) {l : List Ky}, (cutK P n l).Sublist l
 | 0, _ => List.Sublist.refl _
 | n + 1, l => by
  unfold cutK
  split
  ·exact (cutK_sub n).trans (List.eraseIdx_sublist _ _)
  ·exact cutK_sub n
theorem erase_erase {α : Type} {l : List α} {i j : Nat} (h : i ≤ j) : ∀ x ∈ (l.eraseIdx i).eraseIdx j, x ∈ l.eraseIdx (j + 1) := by
 induction l generalizing i j with
 | nil => intro x hx; simp at hx
 | cons y l ih =>
  intro x hx
  cases i with
  | zero =>
   simp only [List.eraseIdx_zero, List.tail_cons] at hx
   simp only [List.eraseIdx_cons_succ, List.mem_cons]
   exact .inr hx
  | succ i =>
   obtain ⟨j, rfl⟩ : ∃ j', j = j' + 1 := ⟨j - 1, by omega⟩
   simp only [List.eraseIdx_cons_succ, List.mem_cons] at hx ⊢
   rcases hx with h1 | h1
   ·exact .inl h1
   ·exact .inr (ih (by omega) x h1)
theorem cutK_min {P : List Ky → Prop} (hmono : ∀ a b : List Ky, (∀ x ∈ a, x ∈ b) → P a → P b) : ∀ (n : Nat) {l : List Ky}, (∀ j, n ≤ j → j < l.length → ¬ P (l.eraseIdx j)) → ∀ j, j < (cutK P n l).length → ¬ P ((cutK P n l).eraseIdx j)
 | 0, l, h => fun j hj => h j (Nat.zero_le _) hj
 | n + 1, l, h => by
  unfold cutK
  split
  ·rename_i h2
   refine cutK_min hmono n fun j hj hl hp => ?_
   by_cases e : n < l.length
   ·rw [List.length_eraseIdx, if_pos e] at hl
    exact h (j + 1) (by omega) (by omega) (hmono _ _ (erase_erase hj) hp)
   ·rw [List.eraseIdx_of_length_le (by omega)] at hl
    omega
  ·rename_i h2
   refine cutK_min hmono n fun j hj hl hp => ?_
   by_cases e : j = n
   ·subst e; exact h2 hp
   ·exact h j (by omega) hl hp
end Go.Proofs.YtlifjajcmnkhfaaGreat

/-
 Matching, plain: sets of bits and sets of requests; what the reference computes of them.
 Conditions: none.
-/
namespace Go.Proofs.YtlifjajcmnkhfaaGreat
open Go Bf
def bitsOf (S : Nat → Bool) : Nat → Nat
 | 0 => 0
 | m + 1 => bitsOf S m + if S m then 2 ^ m else 0
theorem bitsOf_lt (S : Nat → Bool) : ∀ m, bitsOf S m < 2 ^ m
 | 0 => by simp [bitsOf]
 | m + 1 => by
  have := bitsOf_lt S m
  rw [bitsOf, Nat.pow_succ]
  split <;> omega
theorem bitsOf_bit (S : Nat → Bool) : ∀ m i, (bitsOf S m).testBit i = (decide (i < m) && S i)
 | 0, i => by simp [bitsOf]
 | m + 1, i => by
  have hl := bitsOf_lt S m
  have ih := bitsOf_bit S m i
  have e : bitsOf S (m + 1) = 2 ^ m * (if S m then 1 else 0) + bitsOf S m := by
   rw [bitsOf]; split <;> simp <;> omega
  rw [e, Nat.testBit_two_pow_mul_add _ hl]
  by_cases h : i < m
  ·rw [if_pos h, ih]
   have h2 : i < m + 1 := by omega
   simp [h, h2]
  ·rw [if_neg h]
   by_cases h3 : i = m
   ·subst h3
    simp
    cases S i <;> simp
   ·have h4 : ¬ i < m + 1 := by omega
    simp only [h4, decide_false, Bool.false_and]
    obtain ⟨d, hd⟩ : ∃ d, i - m = d + 1 := ⟨i - m - 1, by omega⟩
    rw [hd]
    cases S m <;> simp [Nat.testBit_succ]
theorem touch_bits {fits : List (List Bool)} {sup need : List Int} (hv : Vld fits sup need) {k : Nat} (hk : k < sup.length) (s : Nat) : touchB (fits.getD k []) s = touches (pbOf fits sup need) (fun b => s.testBit b) k := by
 have hl := hv.lf
 obtain ⟨row, hr⟩ := get_of_lt (xs := fits) (i := k) (by omega)
 have hrl := hv.rows row (List.mem_of_getElem? hr)
 unfold touchB touches
 rw [getD_of (d := []) hr, hrl]
 show _ = (List.range need.length).any fun b => s.testBit b && (fits.getD k []).getD b false
 rw [getD_of (d := []) hr]
theorem lackB_eq {fits : List (List Bool)} {sup need : List Int} (hv : Vld fits sup need) (s : Nat) : lackB fits sup need s = lackOf (pbOf fits sup need) (fun b => s.testBit b) := by
 unfold lackB lackOf
 congr 1
 refine sumN_congr fun k hk => ?_
 rw [touch_bits hv hk]
 rfl
theorem lackOf_congr {p : Pb} {D D' : Nat → Bool} (h : ∀ b, b < p.m → D b = D' b) : lackOf p D = lackOf p D' := by
 unfold lackOf
 congr 1
 ·exact sumN_congr fun b hb => by rw [h b hb]
 ·refine sumN_congr fun k _ => ?_
  have : touches p D k = touches p D' k := by
   rw [Bool.eq_iff_iff, touches_iff, touches_iff]
   exact ⟨fun ⟨b, h1, h2, h3⟩ => ⟨b, h1, by rw [← h b h1]; exact h2, h3⟩, fun ⟨b, h1, h2, h3⟩ => ⟨b, h1, by rw [h b h1]; exact h2, h3⟩⟩
  rw [this]
theorem lackOf_bits {fits : List (List Bool)} {sup need : List Int} (hv : Vld fits sup need) (D : Nat → Bool) : lackOf (pbOf fits sup need) D = lackB fits sup need (bitsOf D need.length) := by
 rw [lackB_eq hv]
 refine lackOf_congr fun b hb => ?_
 rw [bitsOf_bit]
 have : b < need.length := hb
 simp [this]
theorem MaxLack.isLack {fits : List (List Bool)} {sup need : List Int} (hv : Vld fits sup need) {v : Int} (h : MaxLack fits sup need (2 ^ need.length) v) : IsLack (pbOf fits sup need) v := by
 refine ⟨?_, fun D => ?_⟩
 ·rcases h.is with h | ⟨s, _, _, h⟩
  ·exact ⟨fun _ => false, by rw [lackOf_none, h]⟩
  ·exact ⟨_, by rw [← lackB_eq hv, h]⟩
 ·rw [lackOf_bits hv]
  by_cases h0 : bitsOf D need.length = 0
  ·rw [h0, lackB_eq hv]
   have : lackOf (pbOf fits sup need) (fun b => (0 : Nat).testBit b) = 0 := by
    rw [← lackOf_none (pbOf fits sup need)]
    exact lackOf_congr fun b _ => by simp
   rw [this]; exact h.nn
  ·exact h.le _ (by omega) (bitsOf_lt _ _)
theorem lackS_le {fits : List (List Bool)} {sup need : List Int} (hv : Vld fits sup need) (S D : Nat → Bool) : lackOf (pbS fits sup need S) D ≤ lackOf (pbOf fits sup need) (fun b => D b && S b) := by
 unfold lackOf
 have h1 : (sumN (pbS fits sup need S).m fun b => if D b = true then (pbS fits sup need S).need b else 0) = sumN (pbOf fits sup need).m fun b => if (D b && S b) = true then (pbOf fits sup need).need b else 0 := sumN_congr fun b _ => by
  show (if D b = true then (if S b = true then need.getD b 0 else 0) else 0) = if (D b && S b) = true then need.getD b 0 else 0
  cases D b <;> cases S b <;> simp
 have h2 : (sumN (pbOf fits sup need).n fun k => if touches (pbOf fits sup need) (fun b => D b && S b) k = true then (pbOf fits sup need).sup k else 0) ≤ sumN (pbS fits sup need S).n fun k => if touches (pbS fits sup need S) D k = true then (pbS fits sup need S).sup k else 0 := sumN_le fun k hk => by
  by_cases ht : touches (pbOf fits sup need) (fun b => D b && S b) k = true
  ·have : touches (pbS fits sup need S) D k = true := by
    obtain ⟨b, g1, g2, g3⟩ := touches_iff.1 ht
    exact touches_iff.2 ⟨b, g1, by simp at g2; exact g2.1, g3⟩
   rw [if_pos ht, if_pos this]
   exact Int.le_refl _
  ·rw [if_neg ht]
   split
   ·exact (getD_rng hv.rs k).1
   ·exact Int.le_refl _
 exact Int.sub_le_sub (Int.le_of_eq h1) h2
theorem lackS_eq {fits : List (List Bool)} {sup need : List Int} (S D : Nat → Bool) (h : ∀ b, b < need.length → D b = true → S b = true) : lackOf (pbS fits sup need S) D = lackOf (pbOf fits sup need) D := by
 unfold lackOf
 congr 1
 refine sumN_congr fun b hb => ?_
 show (if D b = true then (if S b = true then need.getD b 0 else 0) else 0) = if D b = true then need.getD b 0 else 0
 by_cases hd : D b = true
 ·rw [if_pos hd, if_pos hd, if_pos (h b hb hd)]
 ·rw [if_neg hd, if_neg hd]
theorem feasS_iff {fits : List (List Bool)} {sup need : List Int} (hv : Vld fits sup need) (S : Nat → Bool) : Feas (pbS fits sup need S) ↔ ∀ D, lackOf (pbS fits sup need S) D ≤ 0 := feas_iff (fun k _ => (getD_rng hv.rs k).1) (fun b _ => by
 show 0 ≤ if S b = true then need.getD b 0 else 0
 split
 ·exact (getD_rng hv.rn b).1
 ·exact Int.le_refl _)
theorem poss_iff {fits : List (List Bool)} {sup need : List Int} (hv : Vld fits sup need) {set : Nat} (_ : set < 2 ^ need.length) : Poss fits sup need set ↔ Feas (pbS fits sup need fun b => set.testBit b) := by
 rw [feasS_iff hv]
 refine ⟨fun h D => ?_, fun h s h1 h2 h3 => ?_⟩
 ·refine Int.le_trans (lackS_le hv _ D) ?_
  rw [lackOf_bits hv]
  by_cases h0 : bitsOf (fun b => D b && set.testBit b) need.length = 0
  ·rw [h0, lackB_eq hv]
   have : lackOf (pbOf fits sup need) (fun b => (0 : Nat).testBit b) = 0 := by
    rw [← lackOf_none (pbOf fits sup need)]
    exact lackOf_congr fun b _ => by simp
   rw [this]; exact Int.le_refl _
  ·have hsub : bitsOf (fun b => D b && set.testBit b) need.length &&& set = bitsOf (fun b => D b && set.testBit b) need.length := by
    apply Nat.eq_of_testBit_eq
    intro i
    rw [Nat.testBit_and, bitsOf_bit]
    cases D i <;> cases set.testBit i <;> simp
   refine h _ (by omega) ?_ hsub
   rw [← hsub]
   exact Nat.and_le_right
 ·rw [lackB_eq hv, ← lackS_eq (S := fun b => set.testBit b)]
  ·exact h _
  ·intro b _ hb
   rw [← h3, Nat.testBit_and] at hb
   simp at hb
   exact hb.2
theorem sub_bit {s r : Nat} (h : s.testBit r = true) : 2 ^ r ≤ s ∧ ∀ b, (s - 2 ^ r).testBit b = (s.testBit b && decide (b ≠ r)) := by
 have hd : s = 2 ^ r * (s / 2 ^ r) + s % 2 ^ r := (Nat.div_add_mod s (2 ^ r)).symm
 have hl : s % 2 ^ r < 2 ^ r := Nat.mod_lt _ (Nat.two_pow_pos r)
 have hb : (s / 2 ^ r).testBit 0 = true := by
  rw [hd, Nat.testBit_two_pow_mul_add _ hl, if_neg (Nat.lt_irrefl _), Nat.sub_self] at h
  exact h
 generalize s / 2 ^ r = u at hd hb
 generalize s % 2 ^ r = l at hd hl
 obtain ⟨q, rfl⟩ : ∃ q, u = 2 * q + 1 := ⟨u / 2, by simp at hb; omega⟩
 have e1 : 2 ^ r * (2 * q + 1) = 2 ^ r * (2 * q) + 2 ^ r := by rw [Nat.mul_add, Nat.mul_one]
 have e2 : s - 2 ^ r = 2 ^ r * (2 * q) + l := by omega
 refine ⟨by omega, fun b => ?_⟩
 rw [e2, hd, Nat.testBit_two_pow_mul_add _ hl, Nat.testBit_two_pow_mul_add _ hl]
 by_cases h1 : b < r
 ·rw [if_pos h1, if_pos h1]
  have : b ≠ r := by omega
  simp [this]
 ·rw [if_neg h1, if_neg h1]
  by_cases h2 : b = r
  ·subst h2
   simp
  ·obtain ⟨d, hd⟩ : ∃ d, b - r = d + 1 := ⟨b - r - 1, by omega⟩
   rw [hd]
   have e3 : (2 * q + 1) / 2 = q := by omega
   have e4 : 2 * q / 2 = q := by omega
   simp [Nat.testBit_succ, e3, e4, h2]
theorem cut_bits {fits : List (List Bool)} {sup need : List Int} (hv : Vld fits sup need) : ∀ (r s : Nat), r ≤ need.length → s < 2 ^ need.length → (∀ i, i < r → s.testBit i = true) →
  (fun b => (cutS (Poss fits sup need) r s).testBit b) = cutF (fun S => Feas (pbS fits sup need S)) r (fun b => s.testBit b)
 | 0, s, _, _, _ => rfl
 | r + 1, s, hr, hs, hb => by
  obtain ⟨h1, h2⟩ := sub_bit (hb r (by omega))
  have hp := poss_iff hv (set := s - 2 ^ r) (Nat.lt_of_le_of_lt (Nat.sub_le _ _) hs)
  have e : (fun b => (s - 2 ^ r).testBit b) = fun b => s.testBit b && decide (b ≠ r) := funext h2
  rw [e] at hp
  rw [cutS, cutF]
  by_cases h : Poss fits sup need (s - 2 ^ r)
  ·rw [if_pos h, cut_bits hv r s (by omega) hs fun i hi => hb i (by omega)]
   congr
   funext b
   by_cases hbr : b = r
   ·subst hbr
    rw [if_pos rfl]
    exact (hb b (by omega)).trans (@decide_eq_true _ (Classical.propDecidable _) (hp.1 h)).symm
   ·rw [if_neg hbr]
  ·rw [if_neg h, cut_bits hv r (s - 2 ^ r) (by omega) (Nat.lt_of_le_of_lt (Nat.sub_le _ _) hs) fun i hi => by rw [h2, hb i (by omega)]; simp; omega]
   congr
   funext b
   by_cases hbr : b = r
   ·subst hbr
    rw [if_pos rfl, h2]
    refine Eq.trans ?_ (@decide_eq_false _ (Classical.propDecidable _) (fun h' => h (hp.2 h'))).symm
    simp
   ·rw [if_neg hbr, h2]; simp [hbr]
theorem cutFin_bits {fits : List (List Bool)} {sup need : List Int} (hv : Vld fits sup need) : cutFin fits sup need = fun b => (cutOfP fits sup need).testBit b := by
 have h := cut_bits hv need.length (2 ^ need.length - 1) (Nat.le_refl _) (by have := Nat.two_pow_pos need.length; omega) (fun i hi => by rw [Nat.testBit_two_pow_sub_one]; simp [hi])
 unfold cutFin cutOfP
 rw [h]
 congr
 funext b
 rw [Nat.testBit_two_pow_sub_one]
theorem memF_bits {fits : List (List Bool)} {sup need : List Int} (hv : Vld fits sup need) : memF (cutFin fits sup need) need.length = memI (cutOfP fits sup need) need.length := by
 rw [cutFin_bits hv]; rfl
theorem feas_poss {fits : List (List Bool)} {sup need : List Int} (hv : Vld fits sup need) : Feas (pbOf fits sup need) ↔ Poss fits sup need (2 ^ need.length - 1) := by
 rw [poss_iff hv (by have := Nat.two_pow_pos need.length; omega), feasS_iff hv, feas_iff hv.sup0 hv.need0]
 have h : ∀ D, lackOf (pbS fits sup need fun b => (2 ^ need.length - 1).testBit b) D = lackOf (pbOf fits sup need) D := fun D => lackS_eq _ _ fun b hb _ => by rw [Nat.testBit_two_pow_sub_one]; simp [hb]
 simp only [h]
end Go.Proofs.YtlifjajcmnkhfaaGreat

/-
 Matching: the contracts of slices.Equal and of Check, of the program and of the reference.
 Conditions: none.
-/
namespace Go.Proofs.YtlifjajcmnkhfaaGreat
open Go Bf
attribute [local irreducible] Tr Exec Stab HasTy Go.Addr.add IntKind.wrap
def am2 (am : List (List Int)) (i j : Nat) : Int := (am.getD i []).getD j 0
structure CheckP (fits : List (List Bool)) (sup need : List Int) (am : List (List Int)) : Prop where
 len : am.length = sup.length
 rows : ∀ r ∈ am, r.length = need.length
 nn : ∀ i j, i < sup.length → j < need.length → 0 ≤ am2 am i j
 ok : ∀ i j, i < sup.length → j < need.length → 0 < am2 am i j → (fits.getD i []).getD j false = true
 row : ∀ i, i < sup.length → sumN need.length (am2 am i) ≤ sup.getD i 0
 col : ∀ j, j < need.length → sumN sup.length (fun i => am2 am i j) = need.getD j 0
theorem CheckP.le {fits : List (List Bool)} {sup need : List Int} {am : List (List Int)} (h : CheckP fits sup need am) {i j : Nat} (hi : i < sup.length) (hj : j < need.length) : am2 am i j ≤ sup.getD i 0 := by
 have h1 := sumN_le_of_mem (f := am2 am i) (n := need.length) (k := j) (fun b hb => h.nn i b hi hb) hj
 have h2 := h.row i hi
 omega
structure Upto (fits : List (List Bool)) (sup need : List Int) (am : List (List Int)) (i j : Nat) (col : List Int) : Prop where
 cl : col.length = need.length
 ok : ∀ i' j', i' < sup.length → j' < need.length → (i' < i ∨ i' = i ∧ j' < j) → 0 ≤ am2 am i' j' ∧ am2 am i' j' ≤ 1048576 ∧ (0 < am2 am i' j' → (fits.getD i' []).getD j' false = true)
 rw_ : ∀ i', i' < i → (am.getD i' []).length = need.length ∧ sumN need.length (am2 am i') ≤ sup.getD i' 0
 sm : ∀ q, q < need.length → col.getD q 0 = sumN i (fun i' => am2 am i' q) + if q < j then am2 am i q else 0
theorem Upto.start (fits : List (List Bool)) (sup need : List Int) (am : List (List Int)) : Upto fits sup need am 0 0 (List.replicate need.length 0) := by
 refine ⟨by simp, fun _ _ _ _ h => by omega, fun _ h => by omega, fun q hq => ?_⟩
 rw [if_neg (by omega)]
 show _ = (0 : Int) + 0
 rw [List.getD_eq_getElem?_getD]; simp [hq]
theorem Upto.step {fits : List (List Bool)} {sup need : List Int} {am : List (List Int)} {i j : Nat} {col : List Int} (h : Upto fits sup need am i j col) (hj : j < need.length) (h0 : 0 ≤ am2 am i j ∧ am2 am i j ≤ 1048576) (hf : 0 < am2 am i j → (fits.getD i []).getD j false = true) :
  Upto fits sup need am i (j + 1) (col.set j (col.getD j 0 + am2 am i j)) := by
 refine ⟨by simpa using h.cl, fun i' j' h1 h2 h3 => ?_, h.rw_, fun q hq => ?_⟩
 ·by_cases e : i' = i ∧ j' = j
  ·obtain ⟨rfl, rfl⟩ := e
   exact ⟨h0.1, h0.2, hf⟩
  ·exact h.ok i' j' h1 h2 (by omega)
 ·by_cases e : q = j
  ·subst e
   rw [getD_set_self' (by rw [h.cl]; exact hj), h.sm q hq, if_neg (by omega), if_pos (by omega)]
   omega
  ·rw [getD_set_ne' (Ne.symm e), h.sm q hq]
   have : q < j + 1 ↔ q < j := by omega
   simp only [this]
theorem Upto.row {fits : List (List Bool)} {sup need : List Int} {am : List (List Int)} {i : Nat} {col : List Int} {r : List Int} (h : Upto fits sup need am i need.length col) (hr : am[i]? = some r) (hrl : r.length = need.length) (hs : sumN need.length (am2 am i) ≤ sup.getD i 0) : Upto fits sup need am (i + 1) 0 col := by
 refine ⟨h.cl, fun i' j' h1 h2 h3 => h.ok i' j' h1 h2 (by omega), fun i' h1 => ?_, fun q hq => ?_⟩
 ·by_cases e : i' = i
  ·subst e
   exact ⟨by rw [getD_of (d := []) hr]; exact hrl, hs⟩
  ·exact h.rw_ i' (by omega)
 ·rw [h.sm q hq, if_pos hq, if_neg (by omega)]
  show _ = (sumN i (fun i' => am2 am i' q) + am2 am i q) + 0
  omega
theorem Upto.fin {fits : List (List Bool)} {sup need : List Int} {am : List (List Int)} {col : List Int} (h : Upto fits sup need am sup.length 0 col) (hl : am.length = sup.length) : col = need ↔ CheckP fits sup need am := by
 refine ⟨fun e => ⟨hl, fun r hr => ?_, fun i j hi hj => (h.ok i j hi hj (.inl hi)).1, fun i j hi hj => (h.ok i j hi hj (.inl hi)).2.2, fun i hi => (h.rw_ i hi).2, fun j hj => ?_⟩, fun hc => ?_⟩
 ·obtain ⟨i, hi⟩ := List.mem_iff_getElem?.1 hr
  have := (h.rw_ i (by have := (List.getElem?_eq_some_iff.1 hi).1; omega)).1
  rw [getD_of (d := []) hi] at this
  exact this
 ·have := h.sm j hj
  rw [if_neg (by omega), e] at this
  omega
 ·apply List.ext_getElem?
  intro q
  by_cases hq : q < need.length
  ·have h1 := h.sm q hq
   rw [if_neg (by omega), hc.col q hq] at h1
   obtain ⟨a, ha⟩ := get_of_lt (xs := col) (i := q) (by rw [h.cl]; exact hq)
   obtain ⟨b, hb⟩ := get_of_lt hq
   rw [getD_of ha, getD_of hb] at h1
   rw [ha, hb, h1]; simp
  ·rw [List.getElem?_eq_none (by rw [h.cl]; omega), List.getElem?_eq_none (by omega)]
def CheckR (fits : List (List Bool)) (sup need : List Int) (am : List (List Int)) (r : Value) : Prop :=
 (validF fits sup need = false ∧ r = .tuple #[.bool false, .int .i64 300]) ∨ (Vld fits sup need ∧ ∃ b : Bool, r = .tuple #[.bool b, .int .i64 0] ∧ (b = true ↔ CheckP fits sup need am))
theorem CheckR.no {fits : List (List Bool)} {sup need : List Int} {am : List (List Int)} (hv : Vld fits sup need) (h : ¬ CheckP fits sup need am) : CheckR fits sup need am (.tuple #[.bool false, .int .i64 0]) := .inr ⟨hv, false, rfl, by simp [h]⟩
end Go.Proofs.YtlifjajcmnkhfaaGreat

/-
 Matching: the contract of the program's Cut.
 Conditions: none.
-/
namespace Go.Proofs.YtlifjajcmnkhfaaGreat
open Go Bf
attribute [local irreducible] Tr Exec Stab HasTy Go.Addr.add IntKind.wrap
def AscTo (m : Nat) (l : List Int) (i : Nat) : Prop := ∀ q x, q < i → l[q]? = some x → 0 ≤ x ∧ x < m ∧ ∀ y, 0 < q → l[q - 1]? = some y → y < x
def cutNeed (need : List Int) (l : List Int) : Int := (l.map fun x => need.getD x.toNat 0).sum
def cutTouch (row : List Bool) (l : List Int) : Bool := l.any fun x => row.getD x.toNat false
def cutHave (fits : List (List Bool)) (sup : List Int) (l : List Int) (i : Nat) : Int := sumN i fun k => if cutTouch (fits.getD k []) l then sup.getD k 0 else 0
def CutP (fits : List (List Bool)) (sup need l : List Int) : Prop := AscTo need.length l l.length ∧ cutHave fits sup l sup.length < cutNeed need l
def CutR (fits : List (List Bool)) (sup need l : List Int) (r : Value) : Prop :=
 (validF fits sup need = false ∧ r = .tuple #[.bool false, .int .i64 300]) ∨ (Vld fits sup need ∧ ∃ b : Bool, r = .tuple #[.bool b, .int .i64 0] ∧ (b = true ↔ CutP fits sup need l))
theorem CutR.no {fits : List (List Bool)} {sup need l : List Int} (hv : Vld fits sup need) (h : ¬ AscTo need.length l l.length) : CutR fits sup need l (.tuple #[.bool false, .int .i64 0]) := .inr ⟨hv, false, rfl, by simp [CutP, h]⟩
theorem AscTo.step {m i : Nat} {l : List Int} {x : Int} (h : AscTo m l i) (hx : l[i]? = some x) (h1 : 0 ≤ x ∧ x < m) (h2 : ∀ y, 0 < i → l[i - 1]? = some y → y < x) : AscTo m l (i + 1) := fun q z hq hz => by
 by_cases e : q = i
 ·subst e
  rw [hx] at hz
  cases hz
  exact ⟨h1.1, h1.2, h2⟩
 ·exact h q z (by omega) hz
theorem AscTo.ge {m : Nat} {l : List Int} : ∀ {i : Nat}, AscTo m l i → i ≤ l.length → ∀ x, 0 < i → l[i - 1]? = some x → (i : Int) - 1 ≤ x ∧ x < m
 | 0, _, _, _, h, _ => by omega
 | i + 1, h, hl, x, _, hx => by
  simp only [Nat.add_sub_cancel] at hx
  have h1 := h i x (by omega) hx
  by_cases e : i = 0
  ·subst e; exact ⟨by simpa using h1.1, h1.2.1⟩
  ·obtain ⟨y, hy⟩ := get_of_lt (xs := l) (i := i - 1) (by omega)
   have h2 := AscTo.ge (i := i) (fun q z hq hz => h q z (by omega) hz) (by omega) y (by omega) hy
   have h3 := h1.2.2 y (by omega) hy
   exact ⟨by push_cast; omega, h1.2.1⟩
theorem AscTo.count {m i : Nat} {l : List Int} (h : AscTo m l i) (hl : i ≤ l.length) : i ≤ m := by
 by_cases e : i = 0
 ·omega
 ·obtain ⟨y, hy⟩ := get_of_lt (xs := l) (i := i - 1) (by omega)
  have := h.ge hl y (by omega) hy
  omega
theorem cutNeed_succ {need l : List Int} {i : Nat} {x : Int} (hx : l[i]? = some x) : cutNeed need (l.take (i + 1)) = cutNeed need (l.take i) + need.getD x.toNat 0 := by
 unfold cutNeed
 rw [List.take_add_one, hx]
 simp
theorem cutNeed_rng {need : List Int} (h : ∀ x ∈ need, 0 ≤ x ∧ x ≤ 1048576) : ∀ (l : List Int), 0 ≤ cutNeed need l ∧ cutNeed need l ≤ 1048576 * l.length
 | [] => by simp [cutNeed]
 | x :: l => by
  have h1 := cutNeed_rng h l
  have h2 := getD_rng h x.toNat
  have e : cutNeed need (x :: l) = need.getD x.toNat 0 + cutNeed need l := rfl
  rw [e, List.length_cons]
  push_cast
  omega
theorem cutHave_rng {fits : List (List Bool)} {sup : List Int} (h : ∀ x ∈ sup, 0 ≤ x ∧ x ≤ 1048576) (l : List Int) (i : Nat) : 0 ≤ cutHave fits sup l i ∧ cutHave fits sup l i ≤ 1048576 * i := sum_small (fun k _ => by
 have := getD_rng h k
 split
 ·exact this
 ·exact ⟨Int.le_refl _, by decide⟩)
theorem cutHave_succ (fits : List (List Bool)) (sup l : List Int) (i : Nat) : cutHave fits sup l (i + 1) = cutHave fits sup l i + if cutTouch (fits.getD i []) l then sup.getD i 0 else 0 := rfl
set_option maxHeartbeats 1000000 in
theorem cut1_fn (M : Mem) (rb : Nat) (B : Option Addr) (k : Nat) (row : List Bool) (hb : (box rb 120 [.slice B row.length k]).ok M) (hB : Bools M (.slice B row.length k) row) (x : Int) (h0 : 0 ≤ x) (h1 : x < row.length) :
  Fn0 Tryz.prog 62 ([.int .i64 x] ++ [.pointer (some ⟨rb, 0, none⟩)]) M (fun r M' => r = .bool (row.getD x.toNat false) ∧ M = M') := by
 obtain ⟨n, rfl⟩ : ∃ n : Nat, x = (n : Int) := ⟨x.toNat, by omega⟩
 obtain ⟨v, hv⟩ := get_of_lt (xs := row) (i := n) (by omega)
 obtain ⟨hA, hat⟩ := hB.at hv
 have hl := hB.len_le
 have hrow := Row.of_box (n := 1) (sz := 1) hb (by simp) (by simp [Value.oneCell'])
 have hat2 := (hrow.pos (by decide)).2
 refine Fn.intro Tryz.func62 rfl rfl Tryz.ntmps62 rfl fun E F => ?_
 simp only [List.cons_append, List.nil_append]
 refine rQ ?_
 (refine dnQ (hL := by exact ⟨[], rfl⟩) ⟨rfl, ?_⟩)
 exact ⟨by rw [Int.toNat_natCast, getD_of hv]; rfl, rfl⟩
theorem touch_lend (M : Mem) (rb : Nat) (B : Option Addr) (k : Nat) (row : List Bool) (hB : Bools M (.slice B row.length k) row) (A : Option Addr) (c : Nat) (l : List Int) (hl : Ints M (.slice A l.length c) l) (hx : ∀ x ∈ l, 0 ≤ x ∧ x < row.length) :
  Bf.Fn Tryz.prog 61 [.slice A l.length c, .func (.func 62) #[] #[.pointer (some ⟨rb, 0, none⟩)]] M [box rb 120 [.slice B row.length k]] (fun r M' A' => A' = [box rb 120 [.slice B row.length k]] ∧ M = M' ∧ r = .bool (cutTouch row l)) :=
 Fn.lend (rs := [box rb 120 [.slice B row.length k]]) (R := fun r => r = .bool (cutTouch row l)) (clone_ok _ _ _ _ _ _ (containsFunc_fn M none 0 [] ⟨_, 0, [], rfl, by simp, by simp, by simp, Row.nil _ _ _, by simp⟩ 0 [] (fun _ => false) (by simp))) (fun M' hm hok =>
  containsFunc_fn M' A c l (hl.mono RI.mono hm) 62 [.pointer (some ⟨rb, 0, none⟩)] (fun x => row.getD x.toNat false) (fun x hxl => cut1_fn M' rb B k row (hok _ (by simp)) (hB.mono RBo.mono hm) x (hx x hxl).1 (hx x hxl).2))
set_option maxHeartbeats 8000000 in
set_option maxRecDepth 20000 in
theorem cut_fn (M : Mem) (A0 A1 A2 A3 : Option Addr) (c0 c1 c2 c3 : Nat) (fits : List (List Bool)) (sup need l : List Int) (hf : Fits2 M (.slice A0 fits.length c0) fits) (hs : Ints M (.slice A1 sup.length c1) sup) (hn : Ints M (.slice A2 need.length c2) need) (hl : Ints M (.slice A3 l.length c3) l) (rs : I64s sup) (rn : I64s need) :
  Fn0 Tryz.prog 24 [.slice A0 fits.length c0, .slice A1 sup.length c1, .slice A2 need.length c2, .slice A3 l.length c3] M (fun r M' => CutR fits sup need l r ∧ M = M') := by
 have la := hl.len_le
 refine Fn.intro Tryz.func24 rfl rfl Tryz.ntmps24 rfl fun E F => ?_
 refine rQ ?_
 ((refine Tr.step rfl ?_)); refine Exec.call0 rfl (valid_fn M A0 A1 A2 c0 c1 c2 fits sup need hf hs hn rs rn) rfl ?_
 rintro _ _ _ ⟨rfl, rfl⟩
 cases hvv : validF fits sup need
 ·refine rQ ?_
  (refine dnQ (hL := by exact ⟨[], rfl⟩) ⟨rfl, ?_⟩)
  exact ⟨.inl ⟨hvv, rfl⟩, rfl⟩
 have hv := vld_iff.1 hvv
 have l1 := hv.ls
 have l2 := hv.ln
 have l3 := hv.lf
 refine rQ ?_
 refine Tr.loop (α := Nat × Int) (fun y => ⟨65, [(24, .int .i64 (y.1 : Int)), (23, .int .i64 (l.length : Int)), (22, .slice A3 l.length c3), (12, .int .i64 y.2), (11, .int .i64 0), (10, .int .i64 (cutNeed need (l.take y.1))), (0, .slice A0 fits.length c0), (1, .slice A1 sup.length c1), (2, .slice A2 need.length c2), (3, .slice A3 l.length c3)], [], M, [] ++ F⟩)
  (fun y => y.1 ≤ l.length ∧ AscTo need.length l y.1 ∧ ((y.1 = 0 ∧ y.2 = -1) ∨ (0 < y.1 ∧ l[y.1 - 1]? = some y.2))) (fun y => l.length - y.1) (0, -1) ⟨Nat.zero_le _, fun _ _ h => by omega, .inl ⟨rfl, rfl⟩⟩ hsQ (fun y hy => ?_)
 obtain ⟨i, last⟩ := y
 obtain ⟨hi, hasc, hlast⟩ := hy
 simp only at hi hasc hlast
 dsimp only
 have hcnt := hasc.count hi
 have hcn := cutNeed_rng hv.rn (l.take i)
 have htl : (l.take i).length = i := by simp; omega
 rw [htl] at hcn
 by_cases hil : i < l.length
 ·obtain ⟨x, hx⟩ := get_of_lt hil
  obtain ⟨hA, hat⟩ := hl.at hx
  have hxi := hasc
  have hl0 : -1 ≤ last := by
   rcases hlast with ⟨h1, h2⟩ | ⟨h1, h2⟩
   ·omega
   ·have := hasc.ge hi last h1 h2; omega
  by_cases hxl : x ≤ last
  ·refine rQ ?_
   (refine dnQ (hL := by exact ⟨[], rfl⟩) ⟨rfl, ?_⟩)
   refine ⟨CutR.no hv fun h => ?_, rfl⟩
   have h1 := h i x hil hx
   rcases hlast with ⟨h2, h3⟩ | ⟨h2, h3⟩
   ·omega
   ·have := h1.2.2 last h2 h3; omega
  by_cases hxm : need.length ≤ x
  ·refine rQ ?_
   (refine dnQ (hL := by exact ⟨[], rfl⟩) ⟨rfl, ?_⟩)
   refine ⟨CutR.no hv fun h => ?_, rfl⟩
   have h1 := h i x hil hx
   omega
  obtain ⟨n, rfl⟩ : ∃ n : Nat, x = (n : Int) := ⟨x.toNat, by omega⟩
  obtain ⟨v, hv1⟩ := get_of_lt (xs := need) (i := n) (by omega)
  obtain ⟨hA2, nat2⟩ := hn.at hv1
  have hvr := hv.rn v (List.mem_of_getElem? hv1)
  have hsu := cutNeed_succ (need := need) hx
  rw [Int.toNat_natCast, getD_of hv1] at hsu
  refine rQ ?_
  rw [← hsu]
  refine Tr.again (i + 1, (n : Int)) ⟨by simp only; omega, hasc.step hx (by omega) (fun y h1 h2 => ?_), .inr ⟨by simp only; omega, by simpa using hx⟩⟩ (by simp only; omega) hsQ
  rcases hlast with ⟨h3, h4⟩ | ⟨h3, h4⟩
  ·omega
  ·rw [h4] at h2; cases h2; omega
 have ei : i = l.length := by omega
 subst ei
 rw [List.take_length] at hcn ⊢
 have hmem : ∀ x ∈ l, 0 ≤ x ∧ x < need.length := fun x hx => by
  obtain ⟨q, hq⟩ := List.mem_iff_getElem?.1 hx
  have := hasc q x (List.getElem?_eq_some_iff.1 hq).1 hq
  exact ⟨this.1, this.2.1⟩
 refine rQ ?_
 refine Tr.loop (α := Nat) (fun y => ⟨65, [(47, .int .i64 (y : Int)), (46, .int .i64 (fits.length : Int)), (45, .slice A0 fits.length c0), (11, .int .i64 (cutHave fits sup l y)), (10, .int .i64 (cutNeed need l)), (1, .slice A1 sup.length c1), (3, .slice A3 l.length c3)], [], M, [] ++ F⟩)
  (fun y => y ≤ fits.length) (fun y => fits.length - y) 0 (Nat.zero_le _) hsQ (fun y hy => ?_)
 have hch := cutHave_rng (fits := fits) hv.rs l y
 by_cases hyn : y < fits.length
 ·obtain ⟨frow, hfr⟩ := get_of_lt hyn
  have hfrl := hv.rows frow (List.mem_of_getElem? hfr)
  obtain ⟨hA0, fch, fat, fB, fk, rfl, hfB⟩ := hf.elem hfr
  obtain ⟨s, hs1⟩ := get_of_lt (xs := sup) (i := y) (by omega)
  obtain ⟨hA1, sat⟩ := hs.at hs1
  have hsr := hv.rs s (List.mem_of_getElem? hs1)
  have hsu := cutHave_succ fits sup l y
  rw [getD_of (d := []) hfr, getD_of (d := 0) hs1] at hsu
  repeat (first | ((with_reducible refine Tr.step rfl ?_); (first | (refine xmQ ?_) | (refine xaQ ?_) | (refine xMQ ?_) | ((with_reducible refine Knd.makeFunc ?_); (refine Exec.stab rfl (Stab.makeFunc rfl rfl) rfl ?_)) | (refine xiQ ?_) | (refine xSQ ?_) | ((with_reducible refine Knd.alloc ?_); (first | (refine Exec.alloc (tysOk.get rfl) rfl rfl (fun b => ?_)) | (refine Exec.alloc1 (tysOk.get rfl) rfl rfl rfl (fun b => ?_)))) | (refine xxQ ?_))) | (with_reducible first | apply Tr.next | apply Tr.seq | apply Tr.region | apply Tr.nil | apply Tr.skip | apply Tr.block) | (refine Tr.cond_t rfl (by first | (with_reducible assumption) | (with_reducible rfl) | (with_reducible exact (not_not_intro rfl)) | omega) ?_))
  ((refine Tr.step rfl ?_))
  refine Exec.call (A := [box b 120 [.slice fB frow.length fk]]) rfl (touch_lend M b fB fk frow hfB A3 c3 l hl (fun x hx => by rw [hfrl]; exact hmem x hx)) (List.Perm.refl _) rfl ?_
  rintro _ _ _ _ ⟨rfl, rfl, rfl⟩
  cases ht : cutTouch frow l
  ·rw [ht] at hsu
   simp only [Bool.false_eq_true, if_false, Int.add_zero] at hsu
   refine rQ ?_
   rw [← hsu]
   refine gvQ (r := box _ 120 _) ?_
   refine Tr.again (y + 1) hyn (by omega) hsQ
  ·rw [ht] at hsu
   simp only [if_true] at hsu
   refine rQ ?_
   rw [← hsu]
   refine gvQ (r := box _ 120 _) ?_
   refine Tr.again (y + 1) hyn (by omega) hsQ
 ·have ey : y = fits.length := by omega
  subst ey
  refine rQ ?_
  (refine dnQ (hL := by exact ⟨[], rfl⟩) ⟨rfl, ?_⟩)
  refine ⟨.inr ⟨hv, _, rfl, ?_⟩, rfl⟩
  rw [decide_eq_true_eq, l3]
  exact ⟨fun h => ⟨hasc, h⟩, fun h => h.2⟩
end Go.Proofs.YtlifjajcmnkhfaaGreat

/-
 Matching, plain: a problem without some requests; cuts of which none can be left out; problems with more.
 Conditions: none.
-/
namespace Go.Proofs.YtlifjajcmnkhfaaGreat
open Go Bf
def idx (S : Nat → Bool) (m : Nat) : List Nat := (List.range m).filter S
theorem idx_mem {S : Nat → Bool} {m j b : Nat} (h : (idx S m)[j]? = some b) : b < m ∧ S b = true := by
 have := List.mem_of_getElem? h
 simpa [idx] using this
theorem feasS_mono {fits : List (List Bool)} {sup need : List Int} (hv : Vld fits sup need) {S T : Nat → Bool} (h : ∀ b, b < need.length → T b = true → S b = true) (hf : Feas (pbS fits sup need S)) : Feas (pbS fits sup need T) := by
 rw [feasS_iff hv] at hf ⊢
 intro D
 refine Int.le_trans ?_ (hf D)
 unfold lackOf
 refine Int.sub_le_sub (sumN_le fun b hb => ?_) (Int.le_refl _)
 show (if D b = true then (if T b = true then need.getD b 0 else 0) else 0) ≤ if D b = true then (if S b = true then need.getD b 0 else 0) else 0
 have := (getD_rng hv.rn b).1
 by_cases hD : D b = true
 ·rw [if_pos hD, if_pos hD]
  by_cases hT : T b = true
  ·rw [if_pos hT, if_pos (h b hb hT)]; exact Int.le_refl _
  ·rw [if_neg hT]; split <;> omega
 ·rw [if_neg hD, if_neg hD]; exact Int.le_refl _
theorem cutF_props {fits : List (List Bool)} {sup need : List Int} (hv : Vld fits sup need) : ∀ (r : Nat) (S : Nat → Bool), r ≤ need.length → (∀ b, b < r → S b = true) → ¬ Feas (pbS fits sup need S) → (∀ b, r ≤ b → b < need.length → S b = true → Feas (pbS fits sup need fun c => S c && decide (c ≠ b))) →
  ¬ Feas (pbS fits sup need (cutF (fun S => Feas (pbS fits sup need S)) r S)) ∧ (∀ b, b < need.length → cutF (fun S => Feas (pbS fits sup need S)) r S b = true → S b = true ∧ Feas (pbS fits sup need fun c => cutF (fun S => Feas (pbS fits sup need S)) r S c && decide (c ≠ b)))
 | 0, S, _, _, hn, hp => ⟨hn, fun b hb h => ⟨h, hp b (Nat.zero_le _) hb h⟩⟩
 | r + 1, S, hr, hall, hn, hp => by
  rw [cutF]
  have hSr := hall r (by omega)
  by_cases hP : Feas (pbS fits sup need fun b => S b && decide (b ≠ r))
  ·have e : (fun b => if b = r then @decide (Feas (pbS fits sup need fun b => S b && decide (b ≠ r))) (Classical.propDecidable _) else S b) = S := by
    funext b
    by_cases hb : b = r
    ·subst hb; rw [if_pos rfl, hSr]; exact @decide_eq_true _ (Classical.propDecidable _) hP
    ·rw [if_neg hb]
   have e' : cutF (fun S => Feas (pbS fits sup need S)) r (fun b => if b = r then @decide (Feas (pbS fits sup need fun b => S b && decide (b ≠ r))) (Classical.propDecidable _) else S b) = cutF (fun S => Feas (pbS fits sup need S)) r S := by rw [e]
   show _ ∧ _
   have ih := cutF_props hv r S (by omega) (fun b hb => hall b (by omega)) hn (fun b h1 h2 h3 => by
    by_cases hb : b = r
    ·subst hb; exact hP
    ·exact hp b (by omega) h2 h3)
   rw [← e'] at ih
   exact ih
  ·have e : (fun b => if b = r then @decide (Feas (pbS fits sup need fun b => S b && decide (b ≠ r))) (Classical.propDecidable _) else S b) = fun b => S b && decide (b ≠ r) := by
    funext b
    by_cases hb : b = r
    ·subst hb; rw [if_pos rfl]; exact (@decide_eq_false _ (Classical.propDecidable _) hP).trans (by simp)
    ·rw [if_neg hb]; simp [hb]
   have e' : cutF (fun S => Feas (pbS fits sup need S)) r (fun b => if b = r then @decide (Feas (pbS fits sup need fun b => S b && decide (b ≠ r))) (Classical.propDecidable _) else S b) = cutF (fun S => Feas (pbS fits sup need S)) r (fun b => S b && decide (b ≠ r)) := by rw [e]
   have ih := cutF_props hv r (fun b => S b && decide (b ≠ r)) (by omega) (fun b hb => by rw [hall b (by omega)]; simp; omega) hP (fun b h1 h2 h3 => by
    simp at h3
    refine feasS_mono hv (fun c _ hc => ?_) (hp b (by omega) h2 h3.1)
    simp at hc ⊢
    exact ⟨hc.1.1, hc.2⟩)
   rw [← e'] at ih
   refine ⟨ih.1, fun b hb h => ?_⟩
   have := ih.2 b hb h
   refine ⟨?_, this.2⟩
   have h2 := this.1
   simp at h2
   exact h2.1
theorem cutFin_props {fits : List (List Bool)} {sup need : List Int} (hv : Vld fits sup need) (hn : ¬ Feas (pbOf fits sup need)) : ¬ Feas (pbS fits sup need (cutFin fits sup need)) ∧ ∀ b, b < need.length → cutFin fits sup need b = true → Feas (pbS fits sup need fun c => cutFin fits sup need c && decide (c ≠ b)) := by
 have h := cutF_props hv need.length (fun b => decide (b < need.length)) (Nat.le_refl _) (fun b hb => by simpa using hb) (fun hf => hn (by
  rw [feas_iff hv.sup0 hv.need0]
  rw [feasS_iff hv] at hf
  intro D
  rw [← lackS_eq (fun b => decide (b < need.length)) D (fun b hb _ => by simpa using hb)]
  exact hf D)) (fun b h1 h2 => by omega)
 exact ⟨h.1, fun b hb hc => (h.2 b hb hc).2⟩
theorem cutFin_lack {fits : List (List Bool)} {sup need : List Int} (hv : Vld fits sup need) (hn : ¬ Feas (pbOf fits sup need)) : 0 < lackOf (pbOf fits sup need) (cutFin fits sup need) := by
 obtain ⟨h1, h2⟩ := cutFin_props hv hn
 rw [feasS_iff hv] at h1
 obtain ⟨D, hD⟩ := Classical.not_forall.1 h1
 have hle := lackS_le hv (cutFin fits sup need) D
 by_cases hall : ∀ b, b < need.length → cutFin fits sup need b = true → D b = true
 ·have e : lackOf (pbOf fits sup need) (fun b => D b && cutFin fits sup need b) = lackOf (pbOf fits sup need) (cutFin fits sup need) := lackOf_congr fun b hb => by
   have := hall b hb
   cases h : cutFin fits sup need b
   ·simp
   ·simp [this h]
  omega
 ·exfalso
  obtain ⟨b, hb⟩ := Classical.not_forall.1 hall
  have hb1 : b < need.length := Classical.byContradiction fun h => hb fun h' => absurd h' h
  have hb2 : cutFin fits sup need b = true := Classical.byContradiction fun h => hb fun _ h' => absurd h' h
  have hb3 : D b = false := by
   cases h : D b
   ·rfl
   ·exact absurd (fun _ _ => h) hb
  have hf := (feasS_iff hv _).1 (h2 b hb1 hb2) fun c => D c && cutFin fits sup need c
  rw [lackS_eq (fun c => cutFin fits sup need c && decide (c ≠ b)) (fun c => D c && cutFin fits sup need c) (fun c _ hc => by
   simp at hc ⊢
   refine ⟨hc.2, fun e => ?_⟩
   subst e
   rw [hb3] at hc
   cases hc.1)] at hf
  omega
end Go.Proofs.YtlifjajcmnkhfaaGreat

/-
 Matching, plain: how much of a supply a request can get; amounts one after the other.
 Conditions: none.
-/
namespace Go.Proofs.YtlifjajcmnkhfaaGreat
open Go Bf
theorem Flow.congr {p : Pb} {x y : Nat → Nat → Int} {lack : Nat → Int} (h : Bf.Flow p x lack) (e : ∀ k, k < p.n → ∀ b, b ≤ p.m → y k b = x k b) : Bf.Flow p y lack := by
 refine ⟨⟨fun k hk b hb => by rw [e k hk b hb]; exact h.nn k hk b hb, fun k hk b hb h0 => h.ok k hk b hb (by rw [← e k hk b (by omega)]; exact h0), fun k hk => ?_⟩, fun b hb => ?_, h.lk⟩
 ·rw [← h.row k hk]
  exact sumN_congr fun b hb => e k hk b (by omega)
 ·rw [← h.col b hb]
  congr 1
  exact sumN_congr fun k hk => e k hk b (by omega)
def afterP (q : Pb) (s r : Nat) (v : Int) : Pb := ⟨q.n, q.m, fun k b => q.fits k b && !(decide (k = s) && decide (b = r)), fun k => if k = s then q.sup k - v else q.sup k, fun b => if b = r then q.need b - v else q.need b⟩
def addAt (c : Nat → Nat → Int) (s r : Nat) (v : Int) (k b : Nat) : Int := if k = s ∧ b = r then c k b + v else c k b
theorem sumN_at {n s : Nat} {f g : Nat → Int} {v : Int} (hs : s < n) (h1 : g s = f s + v) (h2 : ∀ i, i ≠ s → g i = f i) : sumN n g = sumN n f + v := by
 rw [sumN_upd (f := f) (g := g) hs h2, h1]; omega
theorem flow_add {q : Pb} {s r : Nat} {v : Int} {c : Nat → Nat → Int} (hs : s < q.n) (hr : r < q.m) (hf : q.fits s r = true) (hv : 0 ≤ v) (h : Bf.Flow (afterP q s r v) c fun _ => 0) : Bf.Flow q (addAt c s r v) fun _ => 0 := by
 have hz : c s r = 0 := by
  by_cases e : c s r = 0
  ·exact e
  ·have := h.ok s hs r hr e
   simp [afterP] at this
 refine ⟨⟨fun k hk b hb => ?_, fun k hk b hb h0 => ?_, fun k hk => ?_⟩, fun b hb => ?_, fun _ _ => Int.le_refl _⟩
 ·have := h.nn k hk b hb
  unfold addAt
  split <;> omega
 ·by_cases e : k = s ∧ b = r
  ·obtain ⟨rfl, rfl⟩ := e; exact hf
  ·unfold addAt at h0
   rw [if_neg e] at h0
   have := h.ok k hk b hb h0
   simp only [afterP, Bool.and_eq_true] at this
   exact this.1
 ·have h1 : sumN (q.m + 1) (c k) = if k = s then q.sup k - v else q.sup k := h.row k hk
  by_cases e : k = s
  ·subst e
   rw [if_pos rfl] at h1
   rw [sumN_at (n := q.m + 1) (s := r) (f := c k) (v := v) (by omega) (by simp [addAt]) (fun i hi => by simp [addAt, hi]), h1]
   omega
  ·rw [if_neg e] at h1
   rw [← h1]
   exact sumN_congr fun b _ => by simp [addAt, e]
 ·have h1 : (0 : Int) + sumN q.n (fun k => c k b) = if b = r then q.need b - v else q.need b := h.col b hb
  show (0 : Int) + sumN q.n (fun k => addAt c s r v k b) = q.need b
  by_cases e : b = r
  ·subst e
   rw [if_pos rfl] at h1
   rw [sumN_at (n := q.n) (s := s) (f := fun k => c k b) (v := v) hs (by simp [addAt]) (fun i hi => by simp [addAt, hi])]
   omega
  ·rw [if_neg e] at h1
   rw [← h1]
   congr 1
   exact sumN_congr fun k _ => by simp [addAt, e]
theorem flow_sub {q : Pb} {s r : Nat} {c : Nat → Nat → Int} (hs : s < q.n) (hr : r < q.m) (h : Bf.Flow q c fun _ => 0) : Bf.Flow (afterP q s r (c s r)) (addAt c s r (-(c s r))) fun _ => 0 := by
 have hnn := h.nn s hs r (by omega)
 refine ⟨⟨fun k hk b hb => ?_, fun k hk b hb h0 => ?_, fun k hk => ?_⟩, fun b hb => ?_, fun _ _ => Int.le_refl _⟩
 ·have := h.nn k hk b hb
  unfold addAt
  split
  ·rename_i e; obtain ⟨rfl, rfl⟩ := e; omega
  ·exact this
 ·unfold addAt at h0
  by_cases e : k = s ∧ b = r
  ·rw [if_pos e] at h0
   obtain ⟨rfl, rfl⟩ := e
   omega
  ·rw [if_neg e] at h0
   have := h.ok k hk b hb h0
   show (q.fits k b && !(decide (k = s) && decide (b = r))) = true
   rw [this]
   simp
   omega
 ·have h1 : sumN (q.m + 1) (c k) = q.sup k := h.row k hk
  show sumN (q.m + 1) (addAt c s r (-(c s r)) k) = if k = s then q.sup k - c s r else q.sup k
  by_cases e : k = s
  ·subst e
   rw [if_pos rfl, sumN_at (n := q.m + 1) (s := r) (f := c k) (v := -(c k r)) (by omega) (by simp [addAt]) (fun i hi => by simp [addAt, hi]), h1]
   omega
  ·rw [if_neg e, ← h1]
   exact sumN_congr fun b _ => by simp [addAt, e]
 ·have h1 : (0 : Int) + sumN q.n (fun k => c k b) = q.need b := h.col b hb
  show (0 : Int) + sumN q.n (fun k => addAt c s r (-(c s r)) k b) = if b = r then q.need b - c s r else q.need b
  by_cases e : b = r
  ·subst e
   rw [if_pos rfl, sumN_at (n := q.n) (s := s) (f := fun k => c k b) (v := -(c s b)) hs (by simp [addAt]) (fun i hi => by simp [addAt, hi])]
   omega
  ·rw [if_neg e, ← h1]
   congr 1
   exact sumN_congr fun k _ => by simp [addAt, e]
theorem flow_le_lack {q : Pb} {c : Nat → Nat → Int} (h : Bf.Flow q c fun _ => 0) {s r : Nat} (hs : s < q.n) (hr : r < q.m) {D : Nat → Bool} (hD : D r = false) (ht : touches q D s = true) : c s r ≤ - lackOf q D := by
 have e := h.lackOf_eq D
 have z : (sumN q.m fun b => if D b = true then (0 : Int) else 0) = 0 := sumN_zero fun _ _ => by split <;> rfl
 rw [z, Int.zero_add] at e
 let f := fun k => (sumN q.m fun b => if D b = true then c k b else 0) - if touches q D k = true then q.sup k else 0
 have hf : ∀ k, k < q.n → f k ≤ 0 := fun k hk => by
  have := h.part_le D hk
  show (sumN q.m fun b => if D b = true then c k b else 0) - (if touches q D k = true then q.sup k else 0) ≤ 0
  omega
 have h1 := sumN_le_of_mem (f := fun k => - f k) (n := q.n) (k := s) (fun k hk => by have := hf k hk; show 0 ≤ - f k; omega) hs
 have h2 : (sumN q.n fun k => - f k) = - sumN q.n f := by
  have := sumN_sub (fun _ => 0) f q.n
  rw [sumN_zero (f := fun _ => 0) (fun _ _ => rfl)] at this
  simpa using this
 have h3 : sumN q.n f = lackOf q D := e.symm
 have h4 : (sumN q.m fun b => if D b = true then c s b else 0) + c s r ≤ q.sup s := by
  rw [← h.row s hs]
  have h5 : sumN q.m (fun b => if D b = true then c s b else 0) + c s r = sumN q.m (fun b => if b = r then c s b else if D b = true then c s b else 0) := by
   rw [sumN_at (n := q.m) (s := r) (f := fun b => if D b = true then c s b else 0) (g := fun b => if b = r then c s b else if D b = true then c s b else 0) (v := c s r) hr (by simp [hD]) (fun i hi => by simp [hi])]
  rw [h5]
  have h6 : sumN q.m (fun b => if b = r then c s b else if D b = true then c s b else 0) ≤ sumN q.m (c s) := sumN_le fun b hb => by
   have := h.nn s hs b (by omega)
   split
   ·exact Int.le_refl _
   ·split <;> omega
  have h7 := h.nn s hs q.m (Nat.le_refl _)
  have h8 : sumN (q.m + 1) (c s) = sumN q.m (c s) + c s q.m := rfl
  omega
 have h9 : f s ≤ - c s r := by
  show (sumN q.m fun b => if D b = true then c s b else 0) - (if touches q D s = true then q.sup s else 0) ≤ - c s r
  rw [if_pos ht]
  omega
 have h1 : - f s ≤ sumN q.n fun k => - f k := h1
 omega
def needN (q : Pb) (D : Nat → Bool) : Int := sumN q.m fun b => if D b = true then q.need b else 0
def covN (q : Pb) (s : Nat) (D : Nat → Bool) : Int := sumN q.n fun k => if k = s then 0 else if touches q D k = true then q.sup k else 0
theorem lack_cov (q : Pb) {s : Nat} (hs : s < q.n) (D : Nat → Bool) : lackOf q D = needN q D - covN q s D - if touches q D s = true then q.sup s else 0 := by
 unfold lackOf needN covN
 rw [sumN_at (n := q.n) (s := s) (f := fun k => if k = s then 0 else if touches q D k = true then q.sup k else 0) (g := fun k => if touches q D k = true then q.sup k else 0) (v := if touches q D s = true then q.sup s else 0) hs (by simp) (fun i hi => by simp [hi])]
 omega
theorem need_split (q : Pb) (D E : Nat → Bool) : needN q D + needN q E = needN q (fun b => D b || E b) + needN q (fun b => D b && E b) := by
 unfold needN
 rw [← sumN_add, ← sumN_add]
 exact sumN_congr fun b _ => by cases hD : D b <;> cases hE : E b <;> simp [hD, hE]
theorem touches_or (q : Pb) (D E : Nat → Bool) (k : Nat) : touches q (fun b => D b || E b) k = (touches q D k || touches q E k) := by
 rw [Bool.eq_iff_iff, Bool.or_eq_true, touches_iff, touches_iff, touches_iff]
 constructor
 ·rintro ⟨b, h1, h2, h3⟩
  simp at h2
  rcases h2 with h2 | h2
  ·exact .inl ⟨b, h1, h2, h3⟩
  ·exact .inr ⟨b, h1, h2, h3⟩
 ·rintro (⟨b, h1, h2, h3⟩ | ⟨b, h1, h2, h3⟩)
  ·exact ⟨b, h1, by simp [h2], h3⟩
  ·exact ⟨b, h1, by simp [h2], h3⟩
theorem touches_and (q : Pb) (D E : Nat → Bool) (k : Nat) (h : touches q (fun b => D b && E b) k = true) : touches q D k = true ∧ touches q E k = true := by
 obtain ⟨b, h1, h2, h3⟩ := touches_iff.1 h
 simp at h2
 exact ⟨touches_iff.2 ⟨b, h1, h2.1, h3⟩, touches_iff.2 ⟨b, h1, h2.2, h3⟩⟩
theorem cov_split (q : Pb) (s : Nat) (hp : ∀ k, k < q.n → 0 ≤ q.sup k) (D E : Nat → Bool) : covN q s (fun b => D b || E b) + covN q s (fun b => D b && E b) ≤ covN q s D + covN q s E := by
 unfold covN
 rw [← sumN_add, ← sumN_add]
 refine sumN_le fun k hk => ?_
 have h0 := hp k hk
 by_cases e : k = s
 ·simp [e]
 ·simp only [if_neg e]
  rw [touches_or]
  have h1 := touches_and q D E k
  cases h2 : touches q (fun b => D b && E b) k
  ·cases touches q D k <;> cases touches q E k <;> simp <;> omega
  ·obtain ⟨h3, h4⟩ := h1 h2
   rw [h3, h4]
   simp
theorem cov_mono (q : Pb) (s : Nat) (hp : ∀ k, k < q.n → 0 ≤ q.sup k) {D E : Nat → Bool} (h : ∀ b, D b = true → E b = true) : covN q s D ≤ covN q s E := by
 refine sumN_le fun k hk => ?_
 have h0 := hp k hk
 by_cases e : k = s
 ·simp [e]
 ·simp only [if_neg e]
  cases h1 : touches q D k
  ·simp
   split <;> omega
  ·obtain ⟨b, g1, g2, g3⟩ := touches_iff.1 h1
   have : touches q E k = true := touches_iff.2 ⟨b, g1, h b g2, g3⟩
   simp [this]
theorem room_feas {q : Pb} (hp : ∀ k, k < q.n → 0 ≤ q.sup k) (hn : ∀ b, b < q.m → 0 ≤ q.need b) (hf : Feas q) {s r : Nat} (hs : s < q.n) (hr : r < q.m) {v : Int} (l1 : v ≤ q.sup s) (l2 : v ≤ q.need r)
  (le : ∀ D : Nat → Bool, D r = false → touches q D s = true → v ≤ - lackOf q D) (is : v = q.sup s ∨ v = q.need r ∨ ∃ E : Nat → Bool, E r = false ∧ touches q E s = true ∧ v = - lackOf q E) : 0 ≤ v ∧ Feas (afterP q s r v) := by
 have hl := (feas_iff hp hn).1 hf
 have h0 : 0 ≤ v := by
  rcases is with h | h | ⟨E, -, -, h⟩
  ·rw [h]; exact hp s hs
  ·rw [h]; exact hn r hr
  ·have := hl E; omega
 refine ⟨h0, hall (fun k hk => ?_) (fun b hb => ?_) fun D => ?_⟩
 ·show 0 ≤ if k = s then q.sup k - v else q.sup k
  have := hp k hk
  split
  ·rename_i e; subst e; omega
  ·exact this
 ·show 0 ≤ if b = r then q.need b - v else q.need b
  have := hn b hb
  split
  ·rename_i e; subst e; omega
  ·exact this
 -- the lack after
 have hneed : needN (afterP q s r v) D = needN q D - if D r = true then v else 0 := by
  unfold needN
  show (sumN q.m fun b => if D b = true then (if b = r then q.need b - v else q.need b) else 0) = _
  cases hD : D r
  ·simp only [Bool.false_eq_true, if_false, Int.sub_zero]
   exact sumN_congr fun b _ => by
    by_cases e : b = r
    ·subst e; simp [hD]
    ·simp [e]
  ·rw [sumN_at (n := q.m) (s := r) (f := fun b => if D b = true then q.need b else 0) (v := -v) hr (by simp [hD]; omega) (fun i hi => by simp [hi])]
   simp
   omega
 have htk : ∀ k, k ≠ s → touches (afterP q s r v) D k = touches q D k := fun k hk => by
  rw [Bool.eq_iff_iff, touches_iff, touches_iff]
  simp [afterP, hk]
 have hcov : covN (afterP q s r v) s D = covN q s D := by
  refine sumN_congr fun k _ => ?_
  by_cases e : k = s
  ·simp [e]
  ·simp only [if_neg e]
   rw [htk k e]
   show (if touches q D k = true then (if k = s then q.sup k - v else q.sup k) else 0) = _
   rw [if_neg e]
 have hts : touches (afterP q s r v) D s = true ↔ ∃ b, b < q.m ∧ D b = true ∧ b ≠ r ∧ q.fits s b = true := by
  rw [touches_iff]
  simp only [afterP, Bool.and_eq_true, Bool.not_eq_true', decide_true, Bool.true_and, decide_eq_false_iff_not]
  exact ⟨fun ⟨b, h1, h2, h3, h4⟩ => ⟨b, h1, h2, h4, h3⟩, fun ⟨b, h1, h2, h3, h4⟩ => ⟨b, h1, h2, h4, h3⟩⟩
 have hsup : (afterP q s r v).sup s = q.sup s - v := by simp [afterP]
 rw [lack_cov (afterP q s r v) (s := s) hs, hneed, hcov, hsup]
 have hD := hl D
 rw [lack_cov q hs D] at hD
 by_cases ht : touches (afterP q s r v) D s = true
 ·rw [if_pos ht]
  obtain ⟨b, b1, b2, b3, b4⟩ := hts.1 ht
  have htq : touches q D s = true := touches_iff.2 ⟨b, b1, b2, b4⟩
  rw [if_pos htq] at hD
  cases hDr : D r
  ·have := le D hDr htq
   rw [lack_cov q hs D, if_pos htq] at this
   simp
   omega
  ·simp
   omega
 ·rw [if_neg ht]
  have hno : ∀ b, b < q.m → D b = true → b ≠ r → q.fits s b = false := fun b h1 h2 h3 => by
   cases h : q.fits s b
   ·rfl
   ·exact absurd (hts.2 ⟨b, h1, h2, h3, h⟩) ht
  cases hDr : D r
  ·have htq : touches q D s = false := by
    cases h : touches q D s
    ·rfl
    ·obtain ⟨b, h1, h2, h3⟩ := touches_iff.1 h
     rw [hno b h1 h2 (fun e => by rw [e, hDr] at h2; cases h2)] at h3
     cases h3
   rw [htq] at hD
   simp at hD ⊢
   omega
  ·simp only [if_true, Int.sub_zero]
   rcases is with h | h | ⟨E, e1, e2, h⟩
   ·have : (if touches q D s = true then q.sup s else 0) ≤ q.sup s := by
     have := hp s hs
     split <;> omega
    omega
   ·have h1 := hl fun b => D b && !decide (b = r)
    have h2 : touches q (fun b => D b && !decide (b = r)) s = false := by
     cases h : touches q (fun b => D b && !decide (b = r)) s
     ·rfl
     ·obtain ⟨b, h1, h2, h3⟩ := touches_iff.1 h
      simp at h2
      rw [hno b h1 h2.1 h2.2] at h3
      cases h3
    rw [lack_cov q hs, h2] at h1
    have h3 : needN q D = needN q (fun b => D b && !decide (b = r)) + q.need r := by
     unfold needN
     rw [sumN_at (n := q.m) (s := r) (f := fun b => if (D b && !decide (b = r)) = true then q.need b else 0) (g := fun b => if D b = true then q.need b else 0) (v := q.need r) hr (by simp [hDr]) (fun i hi => by simp [hi])]
    have h4 := cov_mono q s hp (D := fun b => D b && !decide (b = r)) (E := D) (fun b h => by simp at h; exact h.1)
    simp at h1
    omega
   ·have h1 := hl fun b => D b || E b
    have h2 := hl fun b => D b && E b
    have h3 : touches q (fun b => D b || E b) s = true := by rw [touches_or, e2, Bool.or_true]
    have h4 : touches q (fun b => D b && E b) s = false := by
     cases h : touches q (fun b => D b && E b) s
     ·rfl
     ·obtain ⟨b, g1, g2, g3⟩ := touches_iff.1 h
      simp at g2
      rw [hno b g1 g2.1 (fun e => by rw [e, e1] at g2; cases g2.2)] at g3
      cases g3
    rw [lack_cov q hs, if_pos h3] at h1
    rw [lack_cov q hs, h4] at h2
    rw [lack_cov q hs E, if_pos e2] at h
    have h5 := need_split q D E
    have h6 := cov_split q s hp D E
    simp at h2
    omega
def placed (s r k b : Nat) : Bool := decide (k < s) || (decide (k = s) && decide (b < r))
def mergeA (a c : Nat → Nat → Int) (m s r k b : Nat) : Int := if placed s r k b = true ∧ b < m then a k b else c k b
def restA (a : Nat → Nat → Int) (m s r k b : Nat) : Int := if placed s r k b = true ∧ b < m then 0 else a k b
structure Resid (p : Pb) (a : Nat → Nat → Int) (q : Pb) (s r : Nat) : Prop where
 n : q.n = p.n
 m : q.m = p.m
 up : ∀ c, (Bf.Flow q c fun _ => 0) → Bf.Flow p (mergeA a c p.m s r) fun _ => 0
 dn : Bf.Flow q (restA a p.m s r) fun _ => 0
theorem Resid.start {p : Pb} {a : Nat → Nat → Int} (h : Bf.Flow p a fun _ => 0) : Resid p a p 0 0 := by
 have e : ∀ k b, placed 0 0 k b = false := fun k b => by simp [placed]
 exact ⟨rfl, rfl, fun c hc => Flow.congr hc fun k _ b _ => by simp [mergeA, e], Flow.congr h fun k _ b _ => by simp [restA, e]⟩
theorem placed_succ (s r k b : Nat) : placed s (r + 1) k b = (placed s r k b || (decide (k = s) && decide (b = r))) := by
 unfold placed
 rw [Bool.eq_iff_iff]
 simp
 omega
theorem Resid.step {p : Pb} {a : Nat → Nat → Int} {q : Pb} {s r : Nat} (h : Resid p a q s r) (hs : s < p.n) (hr : r < p.m) (hf : q.fits s r = true) : Resid p a (afterP q s r (a s r)) s (r + 1) := by
 have hn := h.n
 have hm := h.m
 have hsr : placed s r s r = false := by simp [placed]
 have hrs : restA a p.m s r s r = a s r := by unfold restA; rw [hsr]; simp
 have hnn := h.dn.nn s (by omega) r (by omega)
 rw [hrs] at hnn
 refine ⟨hn, hm, fun c hc => ?_, ?_⟩
 ·have hz : c s r = 0 := by
   by_cases e : c s r = 0
   ·exact e
   ·have := hc.ok s (by show s < q.n; omega) r (by show r < q.m; omega) e
    simp [afterP] at this
  refine Flow.congr (h.up _ (flow_add (by omega) (by omega) hf hnn hc)) fun k _ b _ => ?_
  unfold mergeA addAt
  rw [placed_succ]
  by_cases e : k = s ∧ b = r
  ·obtain ⟨rfl, rfl⟩ := e
   rw [hsr]
   simp [hr, hz]
  ·have e2 : (decide (k = s) && decide (b = r)) = false := by
    simp
    omega
   rw [e2, Bool.or_false, if_neg e]
 ·have h1 := flow_sub (q := q) (s := s) (r := r) (by omega) (by omega) h.dn
  rw [hrs] at h1
  refine Flow.congr h1 fun k _ b _ => ?_
  unfold addAt restA
  rw [placed_succ]
  by_cases e : k = s ∧ b = r
  ·obtain ⟨rfl, rfl⟩ := e
   rw [hsr]
   simp [hr]
   omega
  ·have e2 : (decide (k = s) && decide (b = r)) = false := by
    simp
    omega
   rw [e2, Bool.or_false, if_neg e]
theorem Resid.zero {p : Pb} {a : Nat → Nat → Int} {q : Pb} {s r : Nat} (h : Resid p a q s r) (hs : s < p.n) (hr : r < p.m) (hf : q.fits s r = false) : a s r = 0 := by
 have hn := h.n
 have hm := h.m
 have hsr : placed s r s r = false := by simp [placed]
 have hrs : restA a p.m s r s r = a s r := by unfold restA; rw [hsr]; simp
 by_cases e : a s r = 0
 ·exact e
 ·have := h.dn.ok s (by omega) r (by omega) (by rw [hrs]; exact e)
  rw [hf] at this; cases this
theorem Resid.skip {p : Pb} {a : Nat → Nat → Int} {q : Pb} {s r : Nat} (h : Resid p a q s r) (hs : s < p.n) (hr : r < p.m) (hf : q.fits s r = false) : Resid p a q s (r + 1) := by
 have hn := h.n
 have hm := h.m
 have hsr : placed s r s r = false := by simp [placed]
 have h0 := h.zero hs hr hf
 refine ⟨hn, hm, fun c hc => ?_, ?_⟩
 ·have hz : c s r = 0 := by
   by_cases e : c s r = 0
   ·exact e
   ·have := hc.ok s (by omega) r (by omega) e
    rw [hf] at this; cases this
  refine Flow.congr (h.up _ hc) fun k _ b _ => ?_
  unfold mergeA
  rw [placed_succ]
  by_cases e : k = s ∧ b = r
  ·obtain ⟨rfl, rfl⟩ := e
   rw [hsr]
   simp [hz, h0]
  ·have e2 : (decide (k = s) && decide (b = r)) = false := by
    simp
    omega
   rw [e2, Bool.or_false]
 ·refine Flow.congr h.dn fun k _ b _ => ?_
  unfold restA
  rw [placed_succ]
  by_cases e : k = s ∧ b = r
  ·obtain ⟨rfl, rfl⟩ := e
   rw [hsr]
   simp [h0]
  ·have e2 : (decide (k = s) && decide (b = r)) = false := by
    simp
    omega
   rw [e2, Bool.or_false]
theorem placed_row (s m k b : Nat) (hb : b < m) : placed (s + 1) 0 k b = placed s m k b := by
 unfold placed
 rw [Bool.eq_iff_iff]
 simp
 omega
theorem Resid.row {p : Pb} {a : Nat → Nat → Int} {q : Pb} {s : Nat} (h : Resid p a q s p.m) : Resid p a q (s + 1) 0 := by
 refine ⟨h.n, h.m, fun c hc => Flow.congr (h.up c hc) fun k _ b _ => ?_, Flow.congr h.dn fun k _ b _ => ?_⟩
 ·unfold mergeA
  by_cases hb : b < p.m
  ·rw [placed_row s p.m k b hb]
  ·simp [hb]
 ·unfold restA
  by_cases hb : b < p.m
  ·rw [placed_row s p.m k b hb]
  ·simp [hb]
theorem Resid.room {p : Pb} {a : Nat → Nat → Int} {q : Pb} {s r : Nat} (hmax : LexMax p a) (h : Resid p a q s r) (hs : s < p.n) (hr : r < p.m) (hf : q.fits s r = true) (hp : ∀ k, k < q.n → 0 ≤ q.sup k) (hn : ∀ b, b < q.m → 0 ≤ q.need b) {v : Int} (l1 : v ≤ q.sup s) (l2 : v ≤ q.need r)
  (le : ∀ D : Nat → Bool, D r = false → touches q D s = true → v ≤ - lackOf q D) (is : v = q.sup s ∨ v = q.need r ∨ ∃ E : Nat → Bool, E r = false ∧ touches q E s = true ∧ v = - lackOf q E) : v = a s r := by
 have hqn := h.n
 have hqm := h.m
 have hsr : placed s r s r = false := by simp [placed]
 have hrs : restA a p.m s r s r = a s r := by unfold restA; rw [hsr]; simp
 have h1 : a s r ≤ v := by
  rcases is with e | e | ⟨E, e1, e2, e⟩
  ·have := sumN_le_of_mem (f := restA a p.m s r s) (n := q.m + 1) (k := r) (fun b hb => h.dn.nn s (by omega) b (by omega)) (by omega)
   rw [h.dn.row s (by omega), hrs] at this
   omega
  ·have := sumN_le_of_mem (f := fun k => restA a p.m s r k r) (n := q.n) (k := s) (fun k hk => h.dn.nn k hk r (by omega)) (by omega)
   have h2 : (0 : Int) + sumN q.n (fun k => restA a p.m s r k r) = q.need r := h.dn.col r (by omega)
   simp only [hrs] at this
   omega
  ·have := flow_le_lack h.dn (s := s) (r := r) (by omega) (by omega) e1 e2
   rw [hrs] at this
   omega
 obtain ⟨h0, c, hc⟩ := room_feas hp hn ⟨_, h.dn⟩ (s := s) (r := r) (by omega) (by omega) l1 l2 le is
 have hz : c s r = 0 := by
  by_cases e : c s r = 0
  ·exact e
  ·have := hc.ok s (by show s < q.n; omega) r (by show r < q.m; omega) e
   simp [afterP] at this
 have h2 := hmax.2 _ (h.up _ (flow_add (by omega) (by omega) hf h0 hc)) s hs r hr (fun k hk b hb => by
  unfold mergeA
  rw [if_pos ⟨by simp [placed, hk], hb⟩]) (fun b hb => by
  unfold mergeA
  rw [if_pos ⟨by simp [placed, hb], by omega⟩])
 unfold mergeA addAt at h2
 rw [hsr] at h2
 simp [hz] at h2
 omega
end Go.Proofs.YtlifjajcmnkhfaaGreat

/-
 Matching, plain: what Cut and Check say of what Flow answers; problems with more.
 Conditions: none.
-/
namespace Go.Proofs.YtlifjajcmnkhfaaGreat
open Go Bf
def setOf (l : List Int) (b : Nat) : Bool := decide ((b : Int) ∈ l)
theorem AscTo.lt {m : Nat} {l : List Int} (h : AscTo m l l.length) : ∀ (i : Nat) (x : Int), l[i]? = some x → ∀ j y, j < i → l[j]? = some y → y < x
 | 0, _, _, j, _, hj, _ => by omega
 | i + 1, x, hx, j, y, hj, hy => by
  have hl := (List.getElem?_eq_some_iff.1 hx).1
  obtain ⟨z, hz⟩ := get_of_lt (xs := l) (i := i) (by omega)
  have h1 := (h (i + 1) x hl hx).2.2 z (by omega) (by simpa using hz)
  by_cases e : j = i
  ·subst e; rw [hz] at hy; cases hy; exact h1
  ·have := h.lt i z hz j y (by omega) hy
   omega
theorem cutNeed_set {need l : List Int} (h : AscTo need.length l l.length) : ∀ i, i ≤ l.length → cutNeed need (l.take i) = sumN need.length fun b => if setOf (l.take i) b = true then need.getD b 0 else 0
 | 0, _ => by
  rw [List.take_zero]
  exact (sumN_zero fun b _ => by simp [setOf]).symm
 | i + 1, hi => by
  obtain ⟨x, hx⟩ := get_of_lt (xs := l) (i := i) (by omega)
  have h1 := h i x (by omega) hx
  obtain ⟨n, rfl⟩ : ∃ n : Nat, x = (n : Int) := ⟨x.toNat, by omega⟩
  rw [cutNeed_succ hx, cutNeed_set h i (by omega), Int.toNat_natCast]
  symm
  refine sumN_at (n := need.length) (s := n) (by omega) ?_ (fun b hb => ?_)
  ·have hnot : setOf (l.take i) n = false := by
    simp only [setOf, decide_eq_false_iff_not]
    intro hm
    obtain ⟨j, hj⟩ := List.mem_iff_getElem?.1 hm
    rw [List.getElem?_take] at hj
    split at hj
    ·rename_i hji
     have := h.lt i n hx j n hji hj
     omega
    ·cases hj
   have hyes : setOf (l.take (i + 1)) n = true := by
    simp only [setOf, decide_eq_true_eq]
    rw [List.take_add_one, hx]
    simp
   rw [hnot, hyes]
   simp
  ·have : setOf (l.take (i + 1)) b = setOf (l.take i) b := by
    unfold setOf
    rw [List.take_add_one, hx]
    simp only [List.mem_append, Option.mem_toList, decide_eq_decide]
    constructor
    ·rintro (h | h)
     ·exact h
     ·simp at h; omega
    ·exact .inl
   rw [this]
theorem cutP_iff {fits : List (List Bool)} {sup need l : List Int} (hv : Vld fits sup need) (h : AscTo need.length l l.length) : CutP fits sup need l ↔ 0 < lackOf (pbOf fits sup need) (setOf l) := by
 have h1 := cutNeed_set h l.length (Nat.le_refl _)
 rw [List.take_length] at h1
 have h2 : cutHave fits sup l sup.length = sumN sup.length fun k => if touches (pbOf fits sup need) (setOf l) k = true then sup.getD k 0 else 0 := sumN_congr fun k hk => by
  have hlf := hv.lf
  obtain ⟨row, hr⟩ := get_of_lt (xs := fits) (i := k) (by omega)
  have hrl := hv.rows row (List.mem_of_getElem? hr)
  have : cutTouch (fits.getD k []) l = touches (pbOf fits sup need) (setOf l) k := by
   rw [Bool.eq_iff_iff, touches_iff]
   unfold cutTouch
   rw [List.any_eq_true]
   constructor
   ·rintro ⟨x, hx, hx2⟩
    obtain ⟨i, hi⟩ := List.mem_iff_getElem?.1 hx
    have h3 := h i x (List.getElem?_eq_some_iff.1 hi).1 hi
    refine ⟨x.toNat, by show x.toNat < need.length; omega, ?_, hx2⟩
    simp only [setOf, decide_eq_true_eq]
    rw [Int.toNat_of_nonneg h3.1]
    exact hx
   ·rintro ⟨b, h3, h4, h5⟩
    simp only [setOf, decide_eq_true_eq] at h4
    exact ⟨(b : Int), h4, h5⟩
  rw [this]
 unfold CutP
 rw [h1, h2]
 unfold lackOf
 show _ ∧ _ < _ ↔ 0 < (sumN need.length fun b => if setOf l b = true then need.getD b 0 else 0) - (sumN sup.length fun k => if touches (pbOf fits sup need) (setOf l) k = true then sup.getD k 0 else 0)
 constructor
 ·rintro ⟨-, h3⟩; omega
 ·intro h3; exact ⟨h, by omega⟩
theorem memF_asc (S : Nat → Bool) (m : Nat) : AscTo m (memF S m) (memF S m).length := by
 intro q x hq hx
 have e : memF S m = (idx S m).map Int.ofNat := rfl
 rw [e, List.getElem?_map] at hx
 cases hi : (idx S m)[q]? with
 | none => rw [hi] at hx; cases hx
 | some b =>
  rw [hi] at hx
  simp at hx
  subst hx
  have hb := (idx_mem hi).1
  refine ⟨by omega, by omega, fun y h0 hy => ?_⟩
  rw [e, List.getElem?_map] at hy
  cases hj : (idx S m)[q - 1]? with
  | none => rw [hj] at hy; cases hy
  | some c =>
   rw [hj] at hy
   simp at hy
   subst hy
   have hp : (idx S m).Pairwise (· < ·) := List.Pairwise.filter _ List.pairwise_lt_range
   rw [List.pairwise_iff_getElem] at hp
   obtain ⟨h1, h2⟩ := List.getElem?_eq_some_iff.1 hi
   obtain ⟨h3, h4⟩ := List.getElem?_eq_some_iff.1 hj
   have := hp (q - 1) q h3 h1 (by omega)
   rw [h2, h4] at this
   omega
theorem memF_set (S : Nat → Bool) (m b : Nat) (hb : b < m) : setOf (memF S m) b = S b := by
 rw [Bool.eq_iff_iff]
 simp only [setOf, decide_eq_true_eq]
 unfold memF
 simp only [List.mem_map, List.mem_filter, List.mem_range]
 constructor
 ·rintro ⟨c, ⟨-, h⟩, e⟩
  have : c = b := by have : (c : Int) = (b : Int) := e; omega
  subst this
  exact h
 ·intro h
  exact ⟨b, ⟨hb, h⟩, rfl⟩
theorem cutFin_cut {fits : List (List Bool)} {sup need : List Int} (hv : Vld fits sup need) (hn : ¬ Feas (pbOf fits sup need)) : CutP fits sup need (memF (cutFin fits sup need) need.length) := by
 rw [cutP_iff hv (memF_asc _ _)]
 have e : lackOf (pbOf fits sup need) (setOf (memF (cutFin fits sup need) need.length)) = lackOf (pbOf fits sup need) (cutFin fits sup need) := lackOf_congr (fun b hb => memF_set _ _ b hb)
 rw [e]
 exact cutFin_lack hv hn
end Go.Proofs.YtlifjajcmnkhfaaGreat

/-
 Refusals: some of the requests of a list, plain.
 Conditions: none.
-/
namespace Go.Proofs.YtlifjajcmnkhfaaGreat
open Go Bf
def rk (S : Nat → Bool) (j : Nat) : Nat := (idx S j).length
end Go.Proofs.YtlifjajcmnkhfaaGreat

/-
 Refusals: excluding and without.
 Conditions: none.
-/
namespace Go.Proofs.YtlifjajcmnkhfaaGreat
open Go Bf
attribute [local irreducible] Tr Exec Stab HasTy Go.Addr.add IntKind.wrap
theorem excluding_fn (M : Mem) (ws : List Value) (A : Option Addr) (n c : Nat) (known : Int) :
  Bf.Fn Tryz.prog 31 [.agg ws.toArray, .slice A n c, .int .i64 known] M [] (fun r M' A' => ∃ b3 b4 b5, r = .func (.func 68) #[] #[.pointer (some ⟨b4, 0, none⟩), .pointer (some ⟨b3, 0, none⟩), .pointer (some ⟨b5, 0, none⟩)] ∧ M = M' ∧
   A' = [box b5 3 [.int .i64 known], box b4 42 [.slice A n c], box b3 38 ws]) := by
 refine Fn.intro Tryz.func31 rfl rfl Tryz.ntmps31 rfl fun E F => ?_
 (repeat (first | ((with_reducible refine Tr.step rfl ?_); (first | (refine xaQ ?_) | ((with_reducible refine Knd.makeFunc ?_); (refine Exec.stab rfl (Stab.makeFunc rfl rfl) rfl ?_)) | ((with_reducible refine Knd.box ?_); (first | (refine Exec.box rfl rfl (fun b => ?_)) | (refine Exec.box1 rfl (by first | rfl | assumption) rfl (fun b => ?_)))))) | (with_reducible first | apply Tr.next | apply Tr.seq | apply Tr.region | apply Tr.nil | apply Tr.ret)))
 refine Tr.doneA (A' := [box _ 3 [.int .i64 known], box _ 42 [.slice A n c], box _ 38 ws]) (by first | exact .inl rfl | exact .inr rfl) rfl (by repeat (first | exact RVs.nil | (apply RVs.cons; (exact RV.tmp rfl)))) (Mem.le.refl _) ⟨fun _ h => h, fun h => h⟩ ⟨_, _, _, rfl, rfl, rfl⟩
set_option maxHeartbeats 4000000 in
theorem excluding1_fn (M : Mem) (ws : List Value) (w : Wd) (hw : RWd M ws w) (A : Option Addr) (c lab b3 b4 b5 : Nat) (l : List Rd) (known : Int) (h : SlOf 5 RRd M (.slice A l.length c) l)
  (J : Nat → List Res → Prop) (A0 A1 : List Res) (hJ : J 0 A0) (hA : (box b5 3 [.int .i64 known] :: box b4 42 [.slice A l.length c] :: box b3 38 ws :: A0).Perm A1)
  (hskip : ∀ i y A', l[i]? = some y → refusedF w y known = false → J i A' → J (i + 1) A')
  (hy : ∀ i y A', l[i]? = some y → refusedF w y known = true → J i A' → Yl Tryz.prog lab [.agg #[.int .i64 y.1.1, .int .i64 y.1.2.1, .int .i64 y.1.2.2]] M A' (fun r M2 A'' => r = .bool true ∧ J (i + 1) A'' ∧ M = M2)) :
  Bf.Fn Tryz.prog 68 [yv lab, .pointer (some ⟨b4, 0, none⟩), .pointer (some ⟨b3, 0, none⟩), .pointer (some ⟨b5, 0, none⟩)] M A1 (fun _ M' A' => J l.length A' ∧ M = M') := by
 have hl := h.len_le
 obtain ⟨h11, hone, -, B, k, h10, hfa⟩ := hw
 refine Fn.intro Tryz.func68 rfl rfl Tryz.ntmps68 rfl fun E F => ?_
 refine Tr.perm (L' := box b5 3 [.int .i64 known] :: box b4 42 [.slice A l.length c] :: box b3 38 ws :: (A0 ++ F)) (hA.append_right F) ?_
 (refine rQ ?_)
 refine Tr.loop (α := Nat × List Res) (fun m => ⟨39, [(11, .int .i64 (m.1 : Int)), (10, .int .i64 (l.length : Int)), (9, .slice A l.length c), (0, yv lab), (1, .pointer (some ⟨b4, 0, none⟩)), (2, .pointer (some ⟨b3, 0, none⟩)), (3, .pointer (some ⟨b5, 0, none⟩))], [], M, box b5 3 [.int .i64 known] :: box b4 42 [.slice A l.length c] :: box b3 38 ws :: (m.2 ++ F)⟩)
  (fun m => m.1 ≤ l.length ∧ J m.1 m.2) (fun m => l.length - m.1) (0, A0) ⟨Nat.zero_le _, hJ⟩ hsQ (fun m hm => ?_)
 obtain ⟨i, A'⟩ := m
 obtain ⟨hi, hJi⟩ := hm
 simp only at hi hJi
 dsimp only
 by_cases hlt : i < l.length
 rotate_left
 ·have e : i = l.length := by omega
  subst e
  (refine rQ ?_)
  refine Tr.less [] (A' ++ F) (by repeat (first | exact SubFr.nil | refine SubFr.cons rfl ?_)) (by repeat (first | exact DropL.refl | apply DropL.skip)) ?_
  refine Tr.doneA (A' := A') (by first | exact .inl rfl | exact .inr rfl) rfl (by repeat (exact RVs.nil)) (Mem.le.refl _) ⟨fun _ h => h, fun h => h⟩ ⟨hJi, rfl⟩
 obtain ⟨y, hyi⟩ := get_of_lt hlt
 obtain ⟨hA, ch, hat, rfl⟩ := h.elem hyi
 simp only [rdC] at hat
 (repeat (first | ((with_reducible refine Tr.step rfl ?_); (first | ((with_reducible refine Knd.load ?_); (first | (refine xlQ ?_) | (refine Exec.stab rfl (Stab.load rfl (tysOk.get rfl) rfl (by repeat (first | exact Has.here | apply Has.there)) (by assumption)) rfl ?_) | (refine Exec.stab rfl (Stab.loadMA rfl (tysOk.get rfl) rfl (by assumption) (by first | rfl | assumption)) rfl ?_) | (refine Exec.stab rfl (Stab.loadP rfl (tysOk.get rfl) rfl (by repeat (first | exact Has.here | apply Has.there)) (by repeat (first | exact TakeL.z | apply TakeL.s))) rfl ?_))) | (refine xfQ ?_) | (refine xiQ ?_) | (refine xWQ ?_) | ((with_reducible refine Knd.alloc ?_); (refine Exec.alloc (tysOk.get rfl) rfl rfl (fun b => ?_))) | (refine xxQ ?_))) | (with_reducible first | apply Tr.next | apply Tr.seq | apply Tr.region | apply Tr.nil | apply Tr.skip | apply Tr.block) | (refine Tr.cond_t rfl (by first | (with_reducible assumption) | omega) ?_)))
 ((refine Tr.step rfl ?_)); refine Exec.call0 rfl (at_fn M B k w.facts y.1 y.2.1 known hfa) rfl ?_
 rintro _ _ _ ⟨rfl, rfl⟩
 have href : refusedF w y known = decide (atF w.facts y.1 y.2.1 known = some 1) := rfl
 cases ha : atF w.facts y.1 y.2.1 known with
 | none =>
  simp only [Option.isSome_none, Option.getD_none]
  (refine rQ ?_)
  refine Tr.again (i + 1, A') ⟨by simp only; omega, hskip i y A' hyi (by rw [href, ha]; rfl) hJi⟩ (by simp only; omega) hsQ
 | some n =>
  simp only [Option.isSome_some, Option.getD_some]
  by_cases hn : n = 1
  rotate_left
  ·(refine rQ ?_)
   refine Tr.again (i + 1, A') ⟨by simp only; omega, hskip i y A' hyi (by rw [href, ha]; simp [hn]) hJi⟩ (by simp only; omega) hsQ
  (repeat (first | ((with_reducible refine Tr.step rfl ?_); (first | (refine xmQ ?_) | (refine xaQ ?_) | ((with_reducible refine Knd.pick ?_); (refine Exec.stab rfl (Stab.pick_t rfl (by (with_reducible rfl)) rfl) rfl ?_)) | ((with_reducible refine Knd.extract ?_); (refine Exec.stab rfl (Stab.extract rfl rfl) rfl ?_)))) | (with_reducible first | apply Tr.next | apply Tr.seq | apply Tr.region | apply Tr.nil) | ((refine Tr.guard_l rfl rfl rfl (by (with_reducible rfl)) ?_); (first | (refine xmQ ?_) | (refine xiQ ?_))) | ((refine Tr.guard_y rfl rfl rfl (by (with_reducible assumption)) ?_); (first | (refine xmQ ?_) | ((with_reducible refine Knd.load ?_); (refine Exec.stab rfl (Stab.loadP rfl (tysOk.get rfl) rfl (by repeat (first | exact Has.here | apply Has.there)) (by repeat (first | exact TakeL.z | apply TakeL.s))) rfl ?_)) | (refine xfQ ?_)))))
  ((refine Tr.guard_y rfl rfl rfl (by (with_reducible assumption)) ?_))
  refine Exec.yield (F := box _ 104 _ :: box b5 3 [.int .i64 known] :: box b4 42 [.slice A l.length c] :: box b3 38 ws :: F) rfl rfl (hy i y A' hyi (by rw [href, ha]; simp [hn]) hJi) (List.perm_append_comm_assoc A' [_, _, _, _] F) rfl ?_
  rintro _ _ A'' - ⟨rfl, hJ2, rfl⟩
  refine Tr.perm (L' := box _ 104 [.int .i64 y.1.1, .int .i64 y.1.2.1, .int .i64 y.1.2.2, .int .i64 y.2.1, .int .i64 y.2.2] :: box b5 3 [.int .i64 known] :: box b4 42 [.slice A l.length c] :: box b3 38 ws :: (A'' ++ F)) (List.perm_append_comm_assoc [_, _, _, _] A'' F) ?_
  (refine rQ ?_)
  refine Tr.again (i + 1, A'') ⟨by simp only; omega, hJ2⟩ (by simp only; omega) hsQ
def kyI (y : Ky) : List Int := [y.1, y.2.1, y.2.2]
theorem kyI_inj {a b : Ky} (h : ints (kyI a) = ints (kyI b)) : a = b := by
 have := ints_inj h
 obtain ⟨a1, a2, a3⟩ := a
 obtain ⟨b1, b2, b3⟩ := b
 simp only [kyI, List.cons.injEq, and_true] at this
 obtain ⟨rfl, rfl, rfl⟩ := this
 rfl
def MapKy (es : List MapEntry) (l : List Ky) : Prop := KeysIn (IntsN 3) es ∧ ∀ y : Ky, valV (ints (kyI y)) es = if y ∈ l then some (.bool true) else none
theorem MapKy.nil : MapKy [] [] := ⟨KeysIn.nil, fun y => by simp [valV, lookV]⟩
theorem MapKy.add {es : List MapEntry} {l : List Ky} (h : MapKy es l) (y : Ky) (cl : Nat) : MapKy (updV (ints (kyI y)) (.bool true) es cl).1 (l ++ [y]) := by
 classical
 refine ⟨updV_keys h.1 ⟨kyI y, rfl, rfl⟩, fun z => ?_⟩
 rw [updV_val, h.2 z]
 by_cases e : z = y
 ·subst e; simp
 ·have : ¬ ints (kyI z) = ints (kyI y) := fun h => e (kyI_inj h)
  simp [this, e]
theorem allOne_head {v : Value} {l : List Value} (h : AllOne (v :: l)) : v.oneCell' = true ∧ AllOne l := by
 cases h with
 | cons h t => exact ⟨h, t⟩
theorem RWd.lit {M : Mem} {ws : List Value} {w : Wd} (h : RWd M ws w) : ∃ u0 u1 u2 u3 u4 u5 u6 u8 u9 A7 c7 A10 c10, ws = [u0, u1, u2, u3, u4, u5, u6, .slice A7 w.swaps.length c7, u8, u9, .slice A10 w.facts.length c10] ∧ (u0.oneCell' = true ∧ u1.oneCell' = true ∧ u2.oneCell' = true ∧ u3.oneCell' = true ∧ u4.oneCell' = true ∧ u5.oneCell' = true ∧ u6.oneCell' = true ∧ u8.oneCell' = true ∧ u9.oneCell' = true) ∧
  SlOf 4 RSw M (.slice A7 w.swaps.length c7) w.swaps ∧ SlOf 8 RFc M (.slice A10 w.facts.length c10) w.facts := by
 obtain ⟨h11, hone, ⟨A7, c7, h7, hsw⟩, A10, c10, h10, hfa⟩ := h
 match ws, h11 with
 | [u0, u1, u2, u3, u4, u5, u6, u7, u8, u9, u10], _ =>
  simp only [nthL, Option.some.injEq] at h7 h10
  subst h7 h10
  obtain ⟨o0, hone⟩ := allOne_head hone
  obtain ⟨o1, hone⟩ := allOne_head hone
  obtain ⟨o2, hone⟩ := allOne_head hone
  obtain ⟨o3, hone⟩ := allOne_head hone
  obtain ⟨o4, hone⟩ := allOne_head hone
  obtain ⟨o5, hone⟩ := allOne_head hone
  obtain ⟨o6, hone⟩ := allOne_head hone
  obtain ⟨-, hone⟩ := allOne_head hone
  obtain ⟨o8, hone⟩ := allOne_head hone
  obtain ⟨o9, hone⟩ := allOne_head hone
  exact ⟨u0, u1, u2, u3, u4, u5, u6, u8, u9, A7, c7, A10, c10, rfl, ⟨o0, o1, o2, o3, o4, o5, o6, o8, o9⟩, hsw, hfa⟩
def keptF (ks : List Ky) (l : List Fc) : List Fc := l.filter fun f => !decide (f.key ∈ ks)
set_option maxHeartbeats 16000000 in
set_option maxRecDepth 20000 in
theorem without_fn0 (M : Mem) (ws : List Value) (w : Wd) (hw : RWd M ws w) (A : Option Addr) (c : Nat) (ks : List Ky) (hk : SlOf 3 RKy M (.slice A ks.length c) ks) (hfl : w.facts.length ≤ 1000000) :
  Fn0 Tryz.prog 34 [.agg ws.toArray, .slice A ks.length c] M (fun v M' => ∃ ws', v = .agg ws'.toArray ∧ RWd M' ws' (withoutF w ks)) := by
 obtain ⟨u0, u1, u2, u3, u4, u5, u6, u8, u9, A7, c7, A10, c10, rfl, ⟨o0, o1, o2, o3, o4, o5, o6, o8, o9⟩, hsw, hfa⟩ := hw.lit
 have hkl := hk.len_le
 have hKey : KeyOk Tryz.prog 64 (IntsN 3) := KeyOk.ofTy (tysOk.get rfl) rfl (by kernel_rfl)
 refine Fn.intro Tryz.func34 rfl rfl Tryz.ntmps34 rfl fun E F => ?_
 (repeat (first | ((with_reducible refine Tr.step rfl ?_); (first | (refine xmQ ?_) | (refine xaQ ?_) | (refine xnQ ?_) | ((with_reducible refine Knd.box ?_); (refine Exec.box rfl rfl (fun b => ?_))) | ((with_reducible refine Knd.alloc ?_); (refine Exec.alloc (tysOk.get rfl) rfl rfl (fun b => ?_))) | ((with_reducible refine Knd.makeMap ?_); (refine Exec.makeMap rfl (fun b => ?_))))) | (with_reducible first | apply Tr.next | apply Tr.seq | apply Tr.region | apply Tr.nil | apply Tr.block)))
 rename_i b2 b4
 generalize b = mb
 refine Tr.loop (α := Nat × List MapEntry × Nat) (fun y => ⟨44, [(14, .int .i64 (y.1 : Int)), (13, .int .i64 (ks.length : Int)), (12, .slice A ks.length c), (5, .map (some mb)), (2, .pointer (some ⟨b2, 0, none⟩)), (4, .pointer (some ⟨b4, 0, none⟩))], [], M, mapR mb y.2.1 y.2.2 :: box b4 38 [.slice none 0 0, .slice none 0 0, .slice none 0 0, .slice none 0 0, .slice none 0 0, .slice none 0 0, .slice none 0 0, .slice none 0 0, .slice none 0 0, .slice none 0 0, .slice none 0 0] :: box b2 38 [u0, u1, u2, u3, u4, u5, u6, .slice A7 w.swaps.length c7, u8, u9, .slice A10 w.facts.length c10] :: ([] ++ F)⟩)
  (fun y => y.1 ≤ ks.length ∧ MapKy y.2.1 (ks.take y.1)) (fun y => ks.length - y.1) (0, [], 0) ⟨Nat.zero_le _, MapKy.nil⟩ hsQ (fun y hy => ?_)
 obtain ⟨i, es, cl⟩ := y
 obtain ⟨hi, hm⟩ := hy
 simp only at hi hm
 dsimp only
 by_cases hlt : i < ks.length
 ·obtain ⟨x, hx⟩ := get_of_lt hlt
  obtain ⟨hA, ch, hat, rfl⟩ := hk.elem hx
  simp only [kyC] at hat
  (repeat (first | ((with_reducible refine Tr.step rfl ?_); (first | (refine xmQ ?_) | ((with_reducible refine Knd.load ?_); (first | (refine xwQ ?_) | (refine Exec.stab rfl (Stab.loadMA rfl (tysOk.get rfl) rfl (by assumption) (by first | rfl | assumption)) rfl ?_))) | (refine xiQ ?_) | (refine xWQ ?_) | ((with_reducible refine Knd.alloc ?_); (refine Exec.alloc (tysOk.get rfl) rfl rfl (fun b => ?_))) | (refine xxQ ?_))) | (with_reducible first | apply Tr.next | apply Tr.seq | apply Tr.region | apply Tr.nil | apply Tr.skip | apply Tr.block) | (refine Tr.cond_t rfl (by first | (with_reducible assumption) | omega) ?_)))
  refine Tr.step rfl ?_
  refine Exec.mapUpdateV hKey rfl rfl rfl (tysOk.get rfl) rfl hm.1 ⟨kyI x, rfl, rfl⟩ (by repeat (first | exact Upd.here | apply Upd.there)) ?_
  (refine rQ ?_)
  refine Tr.again (i + 1, (updV _ _ es cl).1, (updV _ _ es cl).2) ⟨by simp only; omega, ?_⟩ (by simp only; omega) hsQ
  simp only
  rw [List.take_add_one, hx]
  exact hm.add x cl
 have ei : i = ks.length := by omega
 subst ei
 rw [List.take_length] at hm
 (repeat (first | ((with_reducible refine Tr.step rfl ?_); (first | (refine xmQ ?_) | ((with_reducible refine Knd.load ?_); (first | (refine xlQ ?_) | (refine Exec.stab rfl (Stab.loadP rfl (tysOk.get rfl) rfl (by repeat (first | exact Has.here | apply Has.there)) (by repeat (first | exact TakeL.z | apply TakeL.s))) rfl ?_))) | (refine xfQ ?_) | (refine xnQ ?_) | (refine xiQ ?_) | (refine xWQ ?_) | ((with_reducible refine Knd.alloc ?_); (refine Exec.alloc (tysOk.get rfl) rfl rfl (fun b => ?_))) | ((with_reducible refine Knd.build ?_); (refine Exec.stab rfl (Stab.build tysOk rfl rfl rfl rfl (by repeat (first | exact BuildP.nil | ((apply BuildP.many); (rfl); (rfl); (rfl); (rfl); (repeat (first | exact PutL.nil | ((apply PutL.cons); (repeat (first | exact SetL.z | apply SetL.s))))))))) rfl ?_)))) | (with_reducible first | apply Tr.next | apply Tr.seq | apply Tr.region | apply Tr.nil | apply Tr.block | apply Tr.exit | apply Tr.then_exit) | ((with_reducible refine Tr.in_exit ?_ ?_); (exact rfl)) | (refine Tr.cond_f rfl (by first | (with_reducible assumption) | omega) ?_)))
 generalize b = b8
 refine Tr.own_nil 71 8 ?_
 refine Tr.loop (α := Nat × Option Addr × Nat) (fun y => ⟨44, [(27, .int .i64 (y.1 : Int)), (26, .int .i64 (w.facts.length : Int)), (25, .slice A10 w.facts.length c10), (5, .map (some mb)), (8, .pointer (some ⟨b8, 0, none⟩)), (4, .pointer (some ⟨b4, 0, none⟩))], [], M, ownS 71 8 y.2.1 (keptF ks (w.facts.take y.1)).length y.2.2 ((keptF ks (w.facts.take y.1)).flatMap fcC) :: box b8 38 [u0, u1, u2, u3, u4, u5, u6, .slice A7 w.swaps.length c7, u8, u9, .slice y.2.1 (keptF ks (w.facts.take y.1)).length y.2.2] :: mapR mb es cl :: box b4 38 [.slice none 0 0, .slice none 0 0, .slice none 0 0, .slice none 0 0, .slice none 0 0, .slice none 0 0, .slice none 0 0, .slice none 0 0, .slice none 0 0, .slice none 0 0, .slice none 0 0] :: box b2 38 [u0, u1, u2, u3, u4, u5, u6, .slice A7 w.swaps.length c7, u8, u9, .slice A10 w.facts.length c10] :: ([] ++ F)⟩)
  (fun y => y.1 ≤ w.facts.length ∧ y.2.2 ≤ 9223372036854775807) (fun y => w.facts.length - y.1) (0, none, 0) ⟨Nat.zero_le _, by simp⟩ hsQ (fun y hy => ?_)
 obtain ⟨i, C, cc⟩ := y
 obtain ⟨hi, hcc⟩ := hy
 simp only at hi hcc
 dsimp only
 have hkpl : (keptF ks (w.facts.take i)).length ≤ i := Nat.le_trans (List.length_filter_le _ _) (by simp; omega)
 by_cases hlt : i < w.facts.length
 ·obtain ⟨f, hf⟩ := get_of_lt hlt
  obtain ⟨hA, ch, hat, rfl⟩ := hfa.elem hf
  simp only [fcC] at hat
  have htk : keptF ks (w.facts.take (i + 1)) = keptF ks (w.facts.take i) ++ if f.key ∈ ks then [] else [f] := by
   unfold keptF
   rw [List.take_add_one, hf, Option.toList_some, List.filter_append]
   by_cases h : f.key ∈ ks <;> simp [h]
  have hval := hm.2 f.key
  have hkey : ints (kyI f.key) = .agg #[.int .i64 f.key.1, .int .i64 f.key.2.1, .int .i64 f.key.2.2] := rfl
  rw [hkey] at hval
  (repeat (first | ((with_reducible refine Tr.step rfl ?_); (first | (refine xmQ ?_) | ((with_reducible refine Knd.load ?_); (first | (refine Exec.stab rfl (Stab.loadMA rfl (tysOk.get rfl) rfl (by assumption) (by first | rfl | assumption)) rfl ?_) | (refine Exec.stab rfl (Stab.loadP rfl (tysOk.get rfl) rfl (by repeat (first | exact Has.here | apply Has.there)) (by repeat (first | exact TakeL.z | apply TakeL.s))) rfl ?_))) | (refine xfQ ?_) | (refine xiQ ?_) | (refine xWQ ?_) | ((with_reducible refine Knd.alloc ?_); (refine Exec.alloc (tysOk.get rfl) rfl rfl (fun b => ?_))) | (refine xxQ ?_))) | (with_reducible first | apply Tr.next | apply Tr.seq | apply Tr.region | apply Tr.nil | apply Tr.skip | apply Tr.block) | (refine Tr.cond_t rfl (by first | (with_reducible assumption) | omega) ?_)))
  refine Tr.step rfl ?_
  refine Exec.stab rfl (Stab.lookupV hKey rfl rfl (tysOk.get rfl) rfl (tysOk.get rfl) rfl (by repeat (first | exact Has.here | apply Has.there)) hm.1 ⟨kyI f.key, rfl, rfl⟩) rfl ?_
  rw [hval]
  by_cases hin : f.key ∈ ks
  ·rw [if_pos hin] at htk ⊢
   rw [List.append_nil] at htk
   simp only [Option.getD_some]
   rw [← htk]
   (refine rQ ?_)
   refine gvQ (r := box _ 71 _) ?_
   exact Tr.again (i + 1, C, cc) ⟨by simp only; omega, hcc⟩ (by simp only; omega) hsQ
  ·rw [if_neg hin] at htk ⊢
   simp only [Option.getD_none]
   (repeat (first | ((with_reducible refine Tr.step rfl ?_); (first | ((with_reducible refine Knd.load ?_); (first | (refine xlQ ?_) | (refine xwQ ?_))) | (refine xfQ ?_) | ((with_reducible refine Knd.unOp ?_); (refine Exec.stab rfl (Stab.not rfl) rfl ?_)) | ((with_reducible refine Knd.buildSlice ?_); (refine Exec.buildSlice (tysOk.get rfl) rfl (tysOk.get rfl) rfl rfl rfl rfl rfl (by repeat (first | exact BuildP.nil | ((apply BuildP.many); (rfl); (rfl); (rfl); (rfl); (repeat (first | exact PutL.nil | ((apply PutL.cons); (repeat (first | exact SetL.z | apply SetL.s)))))))) rfl (fun b => ?_))))) | (with_reducible first | apply Tr.next | apply Tr.region | apply Tr.nil) | (refine Tr.cond_bt rfl (by first | (with_reducible rfl) | (with_reducible exact Bool.not_false)) ?_)))
   ((refine Tr.step rfl ?_))
   refine Exec.append (news := fcC f) rfl rfl (tysOk.get rfl) rfl (tysOk.get rfl) rfl rfl rfl rfl (by repeat (first | exact Del.here | apply Del.there)) (Src.box (by repeat (first | exact Has.here | apply Has.there))) rfl (fcC_one _) (by omega) (by omega) rfl (fun C2 cc2 hcc2 => ?_)
   refine gvQ (r := box _ 71 _) ?_
   rw [show (keptF ks (w.facts.take i)).flatMap fcC ++ fcC f = (keptF ks (w.facts.take (i + 1))).flatMap fcC by rw [htk, List.flatMap_append]; simp, show (keptF ks (w.facts.take i)).length + 1 = (keptF ks (w.facts.take (i + 1))).length by rw [htk]; simp]
   (refine rQ ?_)
   refine gvQ (r := box _ 71 _) ?_
   exact Tr.again (i + 1, C2, cc2) ⟨by simp only; omega, hcc2⟩ (by simp only; omega) hsQ
 have ei : i = w.facts.length := by omega
 subst ei
 rw [List.take_length]
 refine pbQ (r := ownS 71 8 C _ _ _) (fun M6 hm6 hok6 => ?_)
 (refine rQ ?_)
 (refine Tr.done (by first | exact .inl rfl | exact .inr rfl) rfl (by repeat (first | exact RVs.nil | (apply RVs.cons; (exact RV.cellW (by rfl) (tysOk.get (by rfl)) (by rfl) (by repeat (first | exact Has.here | apply Has.there)) (by first | rfl | assumption))))) (by first | exact Mem.le.refl _ | assumption) (by exact ⟨[_, _, _, _], rfl⟩) ⟨rfl, ?_⟩)
 refine ⟨[u0, u1, u2, u3, u4, u5, u6, .slice A7 w.swaps.length c7, u8, u9, .slice C (keptF ks w.facts).length cc], rfl, rfl, ?_, ⟨A7, c7, rfl, hsw.mono RSw.mono hm6⟩, C, cc, rfl, SlOf.ofOwn hok6 rfl hcc (fcC_elems _ _)⟩
 repeat (first | exact AllOne.nil | refine AllOne.cons (by first | rfl | assumption) ?_)
end Go.Proofs.YtlifjajcmnkhfaaGreat

/-
 Refusals: Facts.
 Conditions: none.
-/
namespace Go.Proofs.YtlifjajcmnkhfaaGreat
open Go Bf
attribute [local irreducible] Tr Exec Stab HasTy Go.Addr.add IntKind.wrap
theorem without_fn (M : Mem) (ws : List Value) (w : Wd) (hw : RWd M ws w) (A : Option Addr) (c : Nat) (ks : List Ky) (hk : SlOf 3 RKy M (.slice A ks.length c) ks) (hfl : w.facts.length ≤ 1000000) :
  Fn0 Tryz.prog 34 [.agg ws.toArray, .slice A ks.length c] M (fun v M' => ∃ ws', v = .agg ws'.toArray ∧ ws'.length = 11 ∧ RWd M' ws' (withoutF w ks)) :=
 Fn0.mono (without_fn0 M ws w hw A c ks hk hfl) fun _ _ _ ⟨ws', h1, h2⟩ => ⟨ws', h1, h2.len, h2⟩
set_option maxHeartbeats 16000000 in
set_option maxRecDepth 20000 in
theorem facts1_fn (M : Mem) (ws : List Value) (w : Wd) (hw : RWd M ws w) (hfl : w.facts.length ≤ 1000000) (k : Bp) (As Ar Af Ad : Option Addr) (cs cr cf cd : Nat) (h1 : SlOf 6 RSpC M (.slice As k.sups.length cs) k.sups) (_ : SlOf 6 RRqC M (.slice Ar k.reqs.length cr) k.reqs) (_ : Fits2 M (.slice Af k.fits.length cf) k.fits) (_ : SlOf 5 RRd M (.slice Ad k.rds.length cd) k.rds) (r : Rq) (hok : okT k.sups (k.reqs ++ [r])) (b3 b4 b8 b9 b10 b11 : Nat) (P1 P2 A8 : Option Addr) (q1 q2 c8 : Nat)
  (h8 : SlOf 6 RRqC M (.slice A8 (k.reqs ++ [r]).length c8) (k.reqs ++ [r])) (hI1 : Ints M (.slice P1 (amS k.sups).length q1) (amS k.sups)) (hI2 : Ints M (.slice P2 (amR (k.reqs ++ [r])).length q2) (amR (k.reqs ++ [r])))
  (A : Option Addr) (c : Nat) (ks : List Ky) (hk : SlOf 3 RKy M (.slice A ks.length c) ks) :
  Bf.Fn Tryz.prog 33 ([.slice A ks.length c] ++ [.pointer (some ⟨b3, 0, none⟩), .pointer (some ⟨b4, 0, none⟩), .pointer (some ⟨b8, 0, none⟩), .pointer (some ⟨b9, 0, none⟩), .pointer (some ⟨b10, 0, none⟩), .pointer (some ⟨b11, 0, none⟩)]) M [box b11 3 [.int .i64 (amR (k.reqs ++ [r])).sum], box b10 32 [.slice P2 (amR (k.reqs ++ [r])).length q2], box b9 32 [.slice P1 (amS k.sups).length q1], box b8 40 [.slice A8 (k.reqs ++ [r]).length c8], box b4 44 [.int .i64 k.known, .slice As k.sups.length cs, .slice Ar k.reqs.length cr, .slice Af k.fits.length cf, .slice Ad k.rds.length cd], box b3 38 ws]
   (fun v _ A' => A' = [box b11 3 [.int .i64 (amR (k.reqs ++ [r])).sum], box b10 32 [.slice P2 (amR (k.reqs ++ [r])).length q2], box b9 32 [.slice P1 (amS k.sups).length q1], box b8 40 [.slice A8 (k.reqs ++ [r]).length c8], box b4 44 [.int .i64 k.known, .slice As k.sups.length cs, .slice Ar k.reqs.length cr, .slice Af k.fits.length cf, .slice Ad k.rds.length cd], box b3 38 ws] ∧ ∃ p : Bool, v = .bool p ∧ (p = true ↔ meetK w k r ks)) := by
 have h11 := hw.len
 refine Fn.intro Tryz.func33 rfl rfl Tryz.ntmps33 rfl fun E F => ?_
 simp only [List.cons_append, List.nil_append]
 (refine rQ ?_)
 (((apply Tr.draw); (kernel_rfl)); (refine tkQ 0 (hB := by exact fun _ h => h) (s := by exact Stab.loadW rfl (tysOk.get rfl) rfl (by repeat (first | exact Has.here | apply Has.there)) (by assumption)) ?_); (refine tkQ 1 (s := by exact Stab.move rfl) ?_); (refine tkQ 3 (s := by exact sfQ) ?_); (refine tkQ 5 (s := by exact slQ) ?_); (refine tkQ 6 (s := by exact sfQ) ?_); (refine tkQ 4 (s := by exact slQ) ?_); (refine tkQ 7 (s := by exact slQ) ?_); (refine TrA.eff 2 rfl (by kernel_rfl) (by exact .inl rfl) ?_))
 refine Exec.call0 rfl (without_fn M ws w hw A c ks hk hfl) rfl ?_
 rintro _ M1 hm1 ⟨ws', rfl, h11', hw'⟩
 refine ⟨hm1, (by exact fun _ h => h), ?_⟩
 ((refine TrA.eff 8 rfl (by kernel_rfl) (by exact .inl rfl) ?_))
 refine Exec.call0 rfl (table_fn M1 ws' (withoutF w ks) hw' As A8 cs c8 k.sups (k.reqs ++ [r]) k.known (h1.mono RSpC.mono hm1) (h8.mono RRqC.mono hm1)) rfl ?_
 rintro _ M2 hm2 (⟨hno, rfl⟩ | ⟨-, A5, c5, B5, k5, rfl, hf, hrd⟩)
 ·exact absurd hok hno
 refine ⟨hm2, (by exact fun _ h => h), ?_⟩
 ((refine tkQ 9 (s := by exact Stab.move rfl) ?_); (refine tkQ 10 (s := by exact Stab.extract rfl rfl) ?_); (refine tkQ 11 (s := by exact Stab.extract rfl rfl) ?_); (refine tkQ 12 (s := by exact Stab.extract rfl rfl) ?_); (refine tkQ 13 (s := by exact Stab.assign rfl) ?_); (refine tkQ 14 (s := by exact Stab.assign rfl) ?_); (refine tkQ 15 (s := by exact Stab.assign rfl) ?_); (refine TrA.done (by kernel_rfl) ?_))
 (refine rQ ?_)
 have hvld := okT_vld (w := withoutF w ks) (known := k.known) hok
 have rs : I64s (amS k.sups) := fun x hx => by have := hvld.rs x hx; omega
 have rn : I64s (amR (k.reqs ++ [r])) := fun x hx => by have := hvld.rn x hx; omega
 have hm12 := hm1.trans hm2
 ((refine Tr.step rfl ?_)); refine Exec.call0 rfl (most2_fn M2 A5 P1 P2 c5 q1 q2 (fitsT (withoutF w ks) k.known k.sups (k.reqs ++ [r])) (amS k.sups) (amR (k.reqs ++ [r])) hf (hI1.mono RI.mono hm12) (hI2.mono RI.mono hm12) rs rn) rfl ?_
 rintro _ _ _ ⟨⟨hbad, -⟩ | ⟨-, L, rfl, hL⟩, rfl⟩
 ·rw [vld_iff.2 hvld] at hbad
  cases hbad
 have hz := hL.zero hvld.sup0 hvld.need0
 by_cases h0 : (amR (k.reqs ++ [r])).sum - L = (amR (k.reqs ++ [r])).sum
 ·(refine rQ ?_)
  exact Tr.doneB (A' := [box b11 3 [.int .i64 (amR (k.reqs ++ [r])).sum], box b10 32 [.slice P2 (amR (k.reqs ++ [r])).length q2], box b9 32 [.slice P1 (amS k.sups).length q1], box b8 40 [.slice A8 (k.reqs ++ [r]).length c8], box b4 44 [.int .i64 k.known, .slice As k.sups.length cs, .slice Ar k.reqs.length cr, .slice Af k.fits.length cf, .slice Ad k.rds.length cd], box b3 38 ws]) [] (by first | exact .inl rfl | exact .inr rfl) rfl (by repeat (first | exact RVs.nil | (apply RVs.cons; (exact RV.tmp rfl)))) hm12 (List.Perm.refl _) ⟨rfl, true, by rw [decide_eq_true h0]; rfl, ⟨fun _ => hz.1 (by omega), fun _ => rfl⟩⟩
 ·(refine rQ ?_)
  exact Tr.doneB (A' := [box b11 3 [.int .i64 (amR (k.reqs ++ [r])).sum], box b10 32 [.slice P2 (amR (k.reqs ++ [r])).length q2], box b9 32 [.slice P1 (amS k.sups).length q1], box b8 40 [.slice A8 (k.reqs ++ [r]).length c8], box b4 44 [.int .i64 k.known, .slice As k.sups.length cs, .slice Ar k.reqs.length cr, .slice Af k.fits.length cf, .slice Ad k.rds.length cd], box b3 38 ws]) [] (by first | exact .inl rfl | exact .inr rfl) rfl (by repeat (first | exact RVs.nil | (apply RVs.cons; (exact RV.tmp rfl)))) hm12 (List.Perm.refl _) ⟨rfl, false, by rw [decide_eq_false h0]; rfl, ⟨fun h => (by cases h), fun h => absurd (by rw [hz.2 h]; omega) h0⟩⟩
noncomputable def exclB (w : Wd) (k : Bp) (r : Rq) : List Ky := exclF w k.known (readsF w k.sups (k.reqs ++ [r]))
noncomputable def factF (w : Wd) (k : Bp) (r : Rq) : List Ky := open Classical in if meetK w k r (exclB w k r) then cutK (meetK w k r) (exclB w k r).length (exclB w k r) else []
def FactsV (w : Wd) (k : Bp) (r : Rq) (v : Value) (M : Mem) : Prop :=
 (askE w k r ≠ 0 ∧ v = .tuple #[.slice none 0 0, .int .i64 (askE w k r)]) ∨
 (askE w k r = 0 ∧ okB w k ∧ Feas (pbW w k.known k.sups (k.reqs ++ [r])) ∧ v = .tuple #[.slice none 0 0, .int .i64 320]) ∨
 (askE w k r = 0 ∧ okB w k ∧ ¬ Feas (pbW w k.known k.sups (k.reqs ++ [r])) ∧ ∃ B c, v = .tuple #[.slice B (factF w k r).length c, .int .i64 0] ∧ SlOf 3 RKy M (.slice B (factF w k r).length c) (factF w k r))
theorem addK_len (l : List Ky) (y : Ky) : (addK l y).length ≤ l.length + 1 := by
 unfold addK
 split <;> simp
def exclT (w : Wd) (known : Int) (l : List Rd) (i : Nat) : List Ky := exclF w known (l.take i)
theorem exclT_no {w : Wd} {known : Int} {l : List Rd} {i : Nat} {y : Rd} (hy : l[i]? = some y) (h : refusedF w y known = false) : exclT w known l (i + 1) = exclT w known l i := by
 unfold exclT exclF
 rw [List.take_add_one, hy]
 simp [h]
theorem exclT_yes {w : Wd} {known : Int} {l : List Rd} {i : Nat} {y : Rd} (hy : l[i]? = some y) (h : refusedF w y known = true) : exclT w known l (i + 1) = addK (exclT w known l i) y.1 := by
 unfold exclT exclF
 rw [List.take_add_one, hy]
 simp [h, List.foldl_append]
theorem exclT_len {w : Wd} {known : Int} {l : List Rd} : ∀ i, (exclT w known l i).length ≤ i
 | 0 => by simp [exclT, exclF]
 | i + 1 => by
  cases hy : l[i]? with
  | none =>
   have : exclT w known l (i + 1) = exclT w known l i := by unfold exclT; rw [List.take_add_one, hy]; simp
   rw [this]
   exact Nat.le_succ_of_le (exclT_len i)
  | some y =>
   cases h : refusedF w y known with
   | false => rw [exclT_no hy h]; exact Nat.le_succ_of_le (exclT_len i)
   | true => rw [exclT_yes hy h]; exact Nat.le_trans (addK_len _ _) (Nat.succ_le_succ (exclT_len i))
theorem readsF_len {w : Wd} {s : List Sp} {r : List Rq} (h : okT s r) : (readsF w s r).length ≤ 4096 := by
 have h1 : ∀ (xs l : List Rd), (xs.foldl addNew l).length ≤ l.length + xs.length := by
  intro xs
  induction xs with
  | nil => intro l; simp
  | cons x xs ih =>
   intro l
   rw [List.foldl_cons]
   have := ih (addNew l x)
   have := addNew_len l x
   rw [List.length_cons]
   omega
 have h2 : ∀ s : List Sp, (s.flatMap fun x => looksR w x r).length ≤ s.length * 64 := by
  intro s
  induction s with
  | nil => simp
  | cons x s ih =>
   rw [List.flatMap_cons, List.length_append, List.length_cons, Nat.succ_mul]
   have : (looksR w x r).length ≤ r.length := by simp [looksR]; exact List.length_filter_le _ _
   have := h.1.2
   omega
 have := h1 (s.flatMap fun x => looksR w x r) []
 have := h2 s
 have := h.1.1
 unfold readsF
 have h64 : s.length * 64 ≤ 64 * 64 := Nat.mul_le_mul_right _ h.1.1
 simp only [List.length_nil, Nat.zero_add] at *
 omega
end Go.Proofs.YtlifjajcmnkhfaaGreat

