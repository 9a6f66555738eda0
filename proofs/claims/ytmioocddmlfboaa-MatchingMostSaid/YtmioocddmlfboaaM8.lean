/-
  Matching: the contracts of serves and of the two goals (functions of what a search looks for).
  Conditions: none.
-/
import Derived.Test.YtmioocddmlfboaaM7
namespace Go.Proofs.Ytmioocddmlfboaa
open Go Bf
attribute [local irreducible] Tr Exec Stab HasTy Go.Addr.add IntKind.wrap
/-- may the supply k give to the request b, or keep it? -/
def srvB (fits : List (List Bool)) (R k b : Nat) : Bool := decide (b = R) || (fits.getD k []).getD b false
set_option maxHeartbeats 2000000 in
theorem serves_fn (M : Mem) (A0 Am Al : Option Addr) (c0 cm cl n : Nat) (fits : List (List Bool)) (hf : Fits2 M (.slice A0 fits.length c0) fits) (R : Nat) (hR : R ≤ 64) (hrows : ∀ r ∈ fits, r.length = R) (tk gv : List Int) (sb : Nat) (k b : Nat) (hk : k < fits.length) (hb : b ≤ R) :
    Bf.Fn Try.prog 52 [.pointer (some ⟨sb, 0, none⟩), .int .i64 (k : Int), .int .i64 (b : Int)] M [box sb 56 (stC (.slice A0 fits.length c0) (.slice Am n cm) (.slice Al R cl) tk gv)]
      (fun r M' A' => r = .bool (srvB fits R k b) ∧ M = M' ∧ A' = [box sb 56 (stC (.slice A0 fits.length c0) (.slice Am n cm) (.slice Al R cl) tk gv)]) := by
  have l0 := hf.len_le
  obtain ⟨row, hrow⟩ := get_of_lt hk
  obtain ⟨hA0, ch, hat0, B, kk, rfl, hB⟩ := hf.elem hrow
  have hrl := hrows row (List.mem_of_getElem? hrow)
  refine Fn.intro Try.func52 rfl rfl Try.ntmps52 rfl fun E F => ?_
  by_cases e : b = R
  · have hs : srvB fits R k b = true := by simp [srvB, e]
    repeat (first | ((with_reducible refine Tr.step rfl ?_); (first | ((with_reducible refine Knd.move ?_); (refine Exec.stab rfl (Stab.move rfl) rfl ?_)) | ((with_reducible refine Knd.assign ?_); (refine Exec.stab rfl (Stab.assign rfl) rfl ?_)) | ((with_reducible refine Knd.load ?_); ((refine Exec.stab rfl (Stab.load rfl (tysOk.get rfl) rfl (by repeat (first | exact Has.here | apply Has.there)) rfl) rfl ?_))) | ((with_reducible refine Knd.fieldAddr ?_); ((refine Exec.stab rfl (Stab.fieldZ rfl (tysOk.get rfl) rfl rfl (tysOk.get rfl) rfl) rfl ?_))) | ((with_reducible refine Knd.len ?_); ((refine Exec.stab rfl (Stab.len rfl (tysOk.get rfl) rfl) rfl ?_))) | ((with_reducible refine Knd.nilCheck ?_); (refine Exec.stab rfl (Stab.nilCheck rfl) rfl ?_)) | ((with_reducible refine Knd.binOp ?_); ((refine Exec.stab rfl (Stab.int rfl rfl rfl) rfl ?_))) | ((with_reducible refine Knd.pick ?_); ((refine Exec.stab rfl (Stab.pick_td rfl (by first | (with_reducible assumption) | (with_reducible rfl) | (with_reducible exact (not_not_intro rfl)) | omega) rfl) rfl ?_))))) | (with_reducible refine Tr.next ?_) | (with_reducible refine Tr.seq ?_) | (with_reducible refine Tr.region ?_) | (with_reducible refine Tr.nil ?_) | (refine Tr.guard_n' rfl rfl rfl (by first | (with_reducible assumption) | (with_reducible rfl) | (with_reducible exact (not_not_intro rfl)) | omega) rfl rfl ?_) | (with_reducible refine Tr.ret ?_))
    refine Tr.doneA (A' := [box sb 56 _]) (by first | exact .inl rfl | exact .inr rfl) rfl (by repeat (first | exact RVs.nil | (apply RVs.cons; (exact RV.tmp rfl)))) (Mem.le.refl _) ⟨fun _ h => h, fun h => h⟩ ⟨by rw [hs]; rfl, rfl, rfl⟩
  · obtain ⟨x, hx⟩ := get_of_lt (xs := row) (i := b) (by omega)
    obtain ⟨hA, hat⟩ := hB.at hx
    have hs : srvB fits R k b = x := by
      unfold srvB
      rw [getD_of (d := []) hrow, getD_of (d := false) hx]; simp [e]
    have hne : ¬ (b : Int) = (R : Int) := by omega
    repeat (first | ((with_reducible refine Tr.step rfl ?_); (first | ((with_reducible refine Knd.move ?_); (refine Exec.stab rfl (Stab.move rfl) rfl ?_)) | ((with_reducible refine Knd.assign ?_); (refine Exec.stab rfl (Stab.assign rfl) rfl ?_)) | ((with_reducible refine Knd.load ?_); ((refine Exec.stab rfl (Stab.load rfl (tysOk.get rfl) rfl (by repeat (first | exact Has.here | apply Has.there)) rfl) rfl ?_))) | ((with_reducible refine Knd.fieldAddr ?_); ((refine Exec.stab rfl (Stab.fieldZ rfl (tysOk.get rfl) rfl rfl (tysOk.get rfl) rfl) rfl ?_))) | ((with_reducible refine Knd.len ?_); ((refine Exec.stab rfl (Stab.len rfl (tysOk.get rfl) rfl) rfl ?_))) | ((with_reducible refine Knd.nilCheck ?_); (refine Exec.stab rfl (Stab.nilCheck rfl) rfl ?_)) | ((with_reducible refine Knd.binOp ?_); ((refine Exec.stab rfl (Stab.int rfl rfl rfl) rfl ?_))) | ((with_reducible refine Knd.pick ?_); ((refine Exec.stab rfl (Stab.pick_fd rfl (by first | (with_reducible assumption) | (with_reducible rfl) | (with_reducible exact (not_not_intro rfl)) | omega) rfl) rfl ?_))))) | (with_reducible refine Tr.next ?_) | (with_reducible refine Tr.seq ?_) | (with_reducible refine Tr.region ?_) | (with_reducible refine Tr.nil ?_) | ((refine Tr.guard_y' rfl rfl rfl (by first | (with_reducible assumption) | (with_reducible rfl) | (with_reducible exact (not_not_intro rfl)) | omega) ?_); (first | ((with_reducible refine Knd.move ?_); (refine Exec.stab rfl (Stab.move rfl) rfl ?_)) | ((with_reducible refine Knd.load ?_); (first | (refine Exec.stab rfl (Stab.load rfl (tysOk.get rfl) rfl (by repeat (first | exact Has.here | apply Has.there)) rfl) rfl ?_) | (refine Exec.stab rfl (Stab.loadM rfl (tysOk.get rfl) rfl (by assumption)) rfl ?_))) | ((with_reducible refine Knd.fieldAddr ?_); ((refine Exec.stab rfl (Stab.fieldZ rfl (tysOk.get rfl) rfl rfl (tysOk.get rfl) rfl) rfl ?_))) | ((with_reducible refine Knd.nilCheck ?_); (refine Exec.stab rfl (Stab.nilCheck rfl) rfl ?_)) | ((with_reducible refine Knd.indexAddr ?_); ((refine Exec.stab rfl (Stab.indexAddr rfl rfl (tysOk.get rfl) rfl (tysOk.get rfl) rfl (by omega) (by omega) (by first | rfl | assumption)) rfl ?_))))) | (with_reducible refine Tr.ret ?_))
    refine Tr.doneA (A' := [box sb 56 _]) (by first | exact .inl rfl | exact .inr rfl) rfl (by repeat (first | exact RVs.nil | (apply RVs.cons; (exact RV.tmp rfl)))) (Mem.le.refl _) ⟨fun _ h => h, fun h => h⟩ ⟨by rw [hs]; rfl, rfl, rfl⟩
/-- the goal of fill: a request that lacks something -/
def lacksB (lack : List Int) (b : Nat) : Bool := decide (b < lack.length) && decide (0 < lack.getD b 0)
set_option maxHeartbeats 2000000 in
theorem lacks_fn (M : Mem) (o : Loc) (m : Nat) (rws : List (Nat × List Int)) (lack tk gv : List Int) (hl : lack.length ≤ 64) (rb sp : Nat) (b : Nat) (hb : b ≤ 64) :
    Bf.Fn Try.prog 44 [.int .i64 (b : Int), .pointer (some ⟨rb, 0, none⟩), .pointer (some ⟨sp, 0, none⟩)] M (stL o m rws lack tk gv ++ [box rb 3 [.int .i64 (lack.length : Int)], box sp 51 [.pointer (some ⟨o.sb, 0, none⟩)]])
      (fun r M' A' => r = .bool (lacksB lack b) ∧ M = M' ∧ A' = stL o m rws lack tk gv ++ [box rb 3 [.int .i64 (lack.length : Int)], box sp 51 [.pointer (some ⟨o.sb, 0, none⟩)]]) := by
  refine Fn.intro Try.func44 rfl rfl Try.ntmps44 rfl fun E F => ?_
  simp only [stL, List.cons_append, List.nil_append]
  by_cases hlt : b < lack.length
  · obtain ⟨x, hx⟩ := get_of_lt hlt
    have hv := intV_get hx
    have hs : lacksB lack b = decide (0 < x) := by
      unfold lacksB
      rw [getD_of (d := 0) hx]; simp [hlt]
    refine Tr.own_some o.Al (by repeat (first | exact Has.here | apply Has.there)) (by omega) (fun hA => ?_)
    repeat (first | ((with_reducible refine Tr.step rfl ?_); (first | ((with_reducible refine Knd.move ?_); (refine Exec.stab rfl (Stab.move rfl) rfl ?_)) | ((with_reducible refine Knd.assign ?_); (refine Exec.stab rfl (Stab.assign rfl) rfl ?_)) | ((with_reducible refine Knd.load ?_); ((refine Exec.stab rfl (Stab.load rfl (tysOk.get rfl) rfl (by repeat (first | exact Has.here | apply Has.there)) rfl) rfl ?_))) | ((with_reducible refine Knd.binOp ?_); ((refine Exec.stab rfl (Stab.int rfl rfl rfl) rfl ?_))) | ((with_reducible refine Knd.pick ?_); ((refine Exec.stab rfl (Stab.pick_td rfl (by first | (with_reducible assumption) | (with_reducible rfl) | (with_reducible exact (not_not_intro rfl)) | omega) rfl) rfl ?_))))) | (with_reducible refine Tr.next ?_) | (with_reducible refine Tr.seq ?_) | (with_reducible refine Tr.region ?_) | (with_reducible refine Tr.nil ?_) | ((refine Tr.guard_y rfl rfl rfl (by first | (with_reducible assumption) | (with_reducible rfl) | (with_reducible exact (not_not_intro rfl)) | omega) ?_); (first | ((with_reducible refine Knd.move ?_); (refine Exec.stab rfl (Stab.move rfl) rfl ?_)) | ((with_reducible refine Knd.load ?_); (first | (refine Exec.stab rfl (Stab.load rfl (tysOk.get rfl) rfl (by repeat (first | exact Has.here | apply Has.there)) rfl) rfl ?_) | (refine Exec.stab rfl (Stab.loadO rfl (tysOk.get rfl) rfl (by repeat (first | exact Has.here | apply Has.there)) (by assumption)) rfl ?_))) | ((with_reducible refine Knd.fieldAddr ?_); ((refine Exec.stab rfl (Stab.fieldZ rfl (tysOk.get rfl) rfl rfl (tysOk.get rfl) rfl) rfl ?_))) | ((with_reducible refine Knd.nilCheck ?_); (refine Exec.stab rfl (Stab.nilCheck rfl) rfl ?_)) | ((with_reducible refine Knd.binOp ?_); ((refine Exec.stab rfl (Stab.int rfl rfl rfl) rfl ?_))) | ((with_reducible refine Knd.indexAddr ?_); ((refine Exec.stab rfl (Stab.indexAddr rfl rfl (tysOk.get rfl) rfl (tysOk.get rfl) rfl (by omega) (by omega) (by first | rfl | assumption)) rfl ?_))))) | (with_reducible refine Tr.ret ?_))
    refine Tr.doneA (A' := [_, _, _, _, _, _]) (by first | exact .inl rfl | exact .inr rfl) rfl (by repeat (first | exact RVs.nil | (apply RVs.cons; (exact RV.tmp rfl)))) (Mem.le.refl _) ⟨fun _ h => h, fun h => h⟩ ⟨by rw [hs]; rfl, rfl, rfl⟩
  · have hs : lacksB lack b = false := by simp [lacksB, hlt]
    repeat (first | ((with_reducible refine Tr.step rfl ?_); (first | ((with_reducible refine Knd.move ?_); (refine Exec.stab rfl (Stab.move rfl) rfl ?_)) | ((with_reducible refine Knd.assign ?_); (refine Exec.stab rfl (Stab.assign rfl) rfl ?_)) | ((with_reducible refine Knd.load ?_); ((refine Exec.stab rfl (Stab.load rfl (tysOk.get rfl) rfl (by repeat (first | exact Has.here | apply Has.there)) rfl) rfl ?_))) | ((with_reducible refine Knd.binOp ?_); ((refine Exec.stab rfl (Stab.int rfl rfl rfl) rfl ?_))) | ((with_reducible refine Knd.pick ?_); ((refine Exec.stab rfl (Stab.pick_fd rfl (by first | (with_reducible assumption) | (with_reducible rfl) | (with_reducible exact (not_not_intro rfl)) | omega) rfl) rfl ?_))))) | (with_reducible refine Tr.next ?_) | (with_reducible refine Tr.seq ?_) | (with_reducible refine Tr.region ?_) | (with_reducible refine Tr.nil ?_) | (refine Tr.guard_n rfl rfl rfl (by first | (with_reducible assumption) | (with_reducible rfl) | (with_reducible exact (not_not_intro rfl)) | omega) rfl rfl ?_) | (with_reducible refine Tr.ret ?_))
    refine Tr.doneA (A' := [_, _, _, _, _, _]) (by first | exact .inl rfl | exact .inr rfl) rfl (by repeat (first | exact RVs.nil | (apply RVs.cons; (exact RV.tmp rfl)))) (Mem.le.refl _) ⟨fun _ h => h, fun h => h⟩ ⟨by rw [hs]; rfl, rfl, rfl⟩
theorem set_same {α : Type} {l : List α} {i : Nat} {x : α} (h : l[i]? = some x) : l.set i x = l := by
  apply List.ext_getElem?
  intro j
  by_cases e : i = j
  · subst e
    rw [List.getElem?_set_self (List.getElem?_eq_some_iff.1 h).1, h]
  · rw [List.getElem?_set_ne e]
theorem rows_get {rws : List (Nat × List Int)} {i b : Nat} {r : List Int} (h : rws[i]? = some (b, r)) : (rws.map fun x => box x.1 3 (intV x.2))[i]? = some (box b 3 (intV r)) := by simp [h]
theorem rows_set (rws : List (Nat × List Int)) (i b : Nat) (r : List Int) : (rws.map fun x => box x.1 3 (intV x.2)).set i (box b 3 (intV r)) = (rws.set i (b, r)).map fun x => box x.1 3 (intV x.2) := by rw [List.map_set]
/-- the goal of raise: a later request to which the supply gives something -/
def laterB (row : List Int) (j b : Nat) : Bool := decide (j < b) && decide (0 < row.getD b 0)
set_option maxHeartbeats 2000000 in
theorem later_fn (M : Mem) (o : Loc) (m : Nat) (rws : List (Nat × List Int)) (lack tk gv : List Int) (i bi : Nat) (row : List Int) (hrow : rws[i]? = some (bi, row)) (hm : row.length = m) (jb rb : Nat) (j b : Nat) (hb : b < m) (hm65 : m ≤ 65) (hj : j ≤ 64) :
    Bf.Fn Try.prog 48 [.int .i64 (b : Int), .pointer (some ⟨jb, 0, none⟩), .pointer (some ⟨rb, 0, none⟩)] M (stL o m rws lack tk gv ++ [box jb 3 [.int .i64 (j : Int)], box rb 23 [.slice (some ⟨bi, 0, none⟩) m m]])
      (fun r M' A' => r = .bool (laterB row j b) ∧ M = M' ∧ A' = stL o m rws lack tk gv ++ [box jb 3 [.int .i64 (j : Int)], box rb 23 [.slice (some ⟨bi, 0, none⟩) m m]]) := by
  refine Fn.intro Try.func48 rfl rfl Try.ntmps48 rfl fun E F => ?_
  simp only [stL, List.cons_append, List.nil_append]
  obtain ⟨x, hx⟩ := get_of_lt (xs := row) (i := b) (by omega)
  have hv : nthL (intV row) b = some (.int .i64 x) := by rw [nthL_eq]; exact intV_get hx
  by_cases hlt : j < b
  · have hs : laterB row j b = decide (0 < x) := by
      unfold laterB
      rw [getD_of (d := 0) hx]; simp [hlt]
    unfold rowsR
    refine Tr.many_out (by repeat (first | exact Del.here | apply Del.there)) (rows_get hrow) ?_
    repeat (first | ((with_reducible refine Tr.step rfl ?_); (first | ((with_reducible refine Knd.move ?_); (refine Exec.stab rfl (Stab.move rfl) rfl ?_)) | ((with_reducible refine Knd.assign ?_); (refine Exec.stab rfl (Stab.assign rfl) rfl ?_)) | ((with_reducible refine Knd.load ?_); ((refine Exec.stab rfl (Stab.load rfl (tysOk.get rfl) rfl (by repeat (first | exact Has.here | apply Has.there)) rfl) rfl ?_))) | ((with_reducible refine Knd.binOp ?_); ((refine Exec.stab rfl (Stab.int rfl rfl rfl) rfl ?_))) | ((with_reducible refine Knd.pick ?_); ((refine Exec.stab rfl (Stab.pick_td rfl (by first | (with_reducible assumption) | (with_reducible rfl) | (with_reducible exact (not_not_intro rfl)) | omega) rfl) rfl ?_))))) | (with_reducible refine Tr.next ?_) | (with_reducible refine Tr.seq ?_) | (with_reducible refine Tr.region ?_) | (with_reducible refine Tr.nil ?_) | ((refine Tr.guard_y rfl rfl rfl (by first | (with_reducible assumption) | (with_reducible rfl) | (with_reducible exact (not_not_intro rfl)) | omega) ?_); (first | ((with_reducible refine Knd.move ?_); (refine Exec.stab rfl (Stab.move rfl) rfl ?_)) | ((with_reducible refine Knd.load ?_); (first | (refine Exec.stab rfl (Stab.load rfl (tysOk.get rfl) rfl (by repeat (first | exact Has.here | apply Has.there)) rfl) rfl ?_) | (refine Exec.stab rfl (Stab.load rfl (tysOk.get rfl) rfl (by repeat (first | exact Has.here | apply Has.there)) (by assumption)) rfl ?_))) | ((with_reducible refine Knd.binOp ?_); ((refine Exec.stab rfl (Stab.int rfl rfl rfl) rfl ?_))) | ((with_reducible refine Knd.indexAddr ?_); ((refine Exec.stab rfl (Stab.indexB0 rfl rfl (tysOk.get rfl) rfl (tysOk.get rfl) rfl (by omega) (by omega)) rfl ?_))))) | (with_reducible refine Tr.ret ?_))
    refine Tr.many_in (rows_get hrow) ?_
    rw [rows_set, set_same hrow]
    refine Tr.front (x := ownS 23 1 _ _ _ _) (by repeat (first | exact Del.here | apply Del.there)) ?_
    refine Tr.front (x := box o.sb 56 _) (by repeat (first | exact Del.here | apply Del.there)) ?_
    refine Tr.doneA (A' := [_, _, _, _, _, _]) (by first | exact .inl rfl | exact .inr rfl) rfl (by repeat (first | exact RVs.nil | (apply RVs.cons; (exact RV.tmp rfl)))) (Mem.le.refl _) ⟨fun _ h => h, fun h => h⟩ ⟨by rw [hs]; rfl, rfl, rfl⟩
  · have hs : laterB row j b = false := by simp [laterB, hlt]
    repeat (first | ((with_reducible refine Tr.step rfl ?_); (first | ((with_reducible refine Knd.move ?_); (refine Exec.stab rfl (Stab.move rfl) rfl ?_)) | ((with_reducible refine Knd.assign ?_); (refine Exec.stab rfl (Stab.assign rfl) rfl ?_)) | ((with_reducible refine Knd.load ?_); ((refine Exec.stab rfl (Stab.load rfl (tysOk.get rfl) rfl (by repeat (first | exact Has.here | apply Has.there)) rfl) rfl ?_))) | ((with_reducible refine Knd.binOp ?_); ((refine Exec.stab rfl (Stab.int rfl rfl rfl) rfl ?_))) | ((with_reducible refine Knd.pick ?_); ((refine Exec.stab rfl (Stab.pick_fd rfl (by first | (with_reducible assumption) | (with_reducible rfl) | (with_reducible exact (not_not_intro rfl)) | omega) rfl) rfl ?_))))) | (with_reducible refine Tr.next ?_) | (with_reducible refine Tr.seq ?_) | (with_reducible refine Tr.region ?_) | (with_reducible refine Tr.nil ?_) | (refine Tr.guard_n rfl rfl rfl (by first | (with_reducible assumption) | (with_reducible rfl) | (with_reducible exact (not_not_intro rfl)) | omega) rfl rfl ?_) | (with_reducible refine Tr.ret ?_))
    refine Tr.doneA (A' := [_, _, _, _, _, _]) (by first | exact .inl rfl | exact .inr rfl) rfl (by repeat (first | exact RVs.nil | (apply RVs.cons; (exact RV.tmp rfl)))) (Mem.le.refl _) ⟨fun _ h => h, fun h => h⟩ ⟨by rw [hs]; rfl, rfl, rfl⟩
end Go.Proofs.Ytmioocddmlfboaa
