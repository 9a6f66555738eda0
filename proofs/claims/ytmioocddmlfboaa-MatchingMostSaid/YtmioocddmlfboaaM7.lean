/-
  Matching: the contracts of Clone, begin and serves; how the state lies in memory.
  Conditions: none.
-/
import Derived.Test.YtmioocddmlfboaaM6
import Derived.Test.YtmioocddmlfboaaBfQueue
namespace Go.Proofs.Ytmioocddmlfboaa
open Go Bf
attribute [local irreducible] Tr Exec Stab HasTy Go.Addr.add IntKind.wrap
set_option maxHeartbeats 2000000 in
theorem clone_fn (M : Mem) (A : Option Addr) (c : Nat) (l : List Int) (hl : Ints M (.slice A l.length c) l) (hs : l.length ≤ 1000000) :
    Bf.Fn Try.prog 33 [.slice A l.length c] M [] (fun r M' A' => (∃ B k, r = .slice B l.length k ∧ k ≤ 9223372036854775807 ∧ A' = [ownS 3 1 B l.length k (intV l)]) ∧ M = M') := by
  have hrow := Ints.row hl
  have hcap := Ints.cap hl
  refine Fn.intro Try.func33 rfl rfl Try.ntmps33 rfl fun E F => ?_
  by_cases hA : A = none
  · have hnil : l = [] := List.eq_nil_of_length_eq_zero (hcap.2.2.2 hA)
    subst hnil
    repeat (first | ((with_reducible refine Tr.step rfl ?_); (first | ((with_reducible refine Knd.move ?_); (refine Exec.stab rfl (Stab.move rfl) rfl ?_)) | ((with_reducible refine Knd.assign ?_); (refine Exec.stab rfl (Stab.assign rfl) rfl ?_)) | ((with_reducible refine Knd.binOp ?_); ((refine Exec.stab rfl (Stab.slnil rfl (tysOk.get rfl) rfl) rfl ?_))))) | (with_reducible refine Tr.next ?_) | (with_reducible refine Tr.seq ?_) | (with_reducible refine Tr.region ?_) | (with_reducible refine Tr.nil ?_) | (with_reducible refine Tr.ret ?_) | (with_reducible refine Tr.then_ret ?_) | (refine Tr.cond_t rfl (by first | (with_reducible assumption) | (with_reducible rfl) | (with_reducible exact (not_not_intro rfl)) | omega) ?_))
    refine Tr.own_nil 3 1 ?_
    refine Tr.doneA (A' := [ownS 3 1 none 0 0 []]) (by first | exact .inl rfl | exact .inr rfl) rfl (by repeat (first | exact RVs.nil | (apply RVs.cons; (exact RV.tmp rfl)))) (Mem.le.refl _) ⟨fun _ h => h, fun h => h⟩ ⟨⟨none, 0, rfl, by omega, rfl⟩, rfl⟩
  · repeat (first | ((with_reducible refine Tr.step rfl ?_); (first | ((with_reducible refine Knd.move ?_); (refine Exec.stab rfl (Stab.move rfl) rfl ?_)) | ((with_reducible refine Knd.assign ?_); (refine Exec.stab rfl (Stab.assign rfl) rfl ?_)) | ((with_reducible refine Knd.binOp ?_); ((refine Exec.stab rfl (Stab.slnil rfl (tysOk.get rfl) rfl) rfl ?_))) | ((with_reducible refine Knd.buildSlice ?_); ((refine Exec.buildSlice (tysOk.get rfl) rfl (tysOk.get rfl) rfl rfl rfl rfl rfl (by repeat (exact BuildP.nil)) rfl (fun b => ?_)))))) | (with_reducible refine Tr.next ?_) | (with_reducible refine Tr.seq ?_) | (with_reducible refine Tr.region ?_) | (with_reducible refine Tr.nil ?_) | (with_reducible refine Tr.skip ?_) | (refine Tr.cond_f rfl (by first | (with_reducible assumption) | (with_reducible rfl) | (with_reducible exact (not_not_intro rfl)) | omega) ?_))
    refine Tr.box_own 1 0 (by repeat (first | exact Upd.here | apply Upd.there)) rfl (by intro u hu; cases hu) (by simp [maxLen]) ?_
    ((refine Tr.step rfl ?_))
    refine Exec.append (news := intV l) rfl rfl (tysOk.get rfl) rfl (tysOk.get rfl) rfl rfl rfl rfl (by repeat (first | exact Del.here | apply Del.there)) (Src.row hrow) (by simp) (intV_one _) (by omega) (by omega) rfl (fun A6 c6 hc6 => ?_)
    rw [zeros0_app, Nat.zero_add]
    repeat (first | ((with_reducible refine Tr.step rfl ?_); (((with_reducible refine Knd.assign ?_); (refine Exec.stab rfl (Stab.assign rfl) rfl ?_)))) | (with_reducible refine Tr.next ?_) | (with_reducible refine Tr.nil ?_) | (with_reducible refine Tr.ret ?_))
    refine Tr.doneA (A' := [ownS 3 1 A6 l.length c6 (intV l)]) (by first | exact .inl rfl | exact .inr rfl) rfl (by repeat (first | exact RVs.nil | (apply RVs.cons; (exact RV.tmp rfl)))) (Mem.le.refl _) ⟨fun _ h => h, fun h => h⟩ ⟨⟨A6, c6, rfl, hc6, rfl⟩, rfl⟩
/-- the cells of a state -/
def stC (fs am lk : Value) (tk gv : List Int) : List Value := fs :: am :: lk :: (intV tk ++ intV gv)
/-- the rows of a state, each in a block of its own -/
def rowsR (rws : List (Nat × List Int)) : Res := many (rws.map fun x => box x.1 3 (intV x.2))
def ptrV (m : Nat) (rws : List (Nat × List Int)) : List Value := rws.map fun x => .slice (some ⟨x.1, 0, none⟩) m m
theorem ptrV_append (m : Nat) (a b : List (Nat × List Int)) : ptrV m (a ++ b) = ptrV m a ++ ptrV m b := by simp [ptrV]
@[simp] theorem ptrV_length (m : Nat) (a : List (Nat × List Int)) : (ptrV m a).length = a.length := by simp [ptrV]
theorem ptrV_one (m : Nat) (a : List (Nat × List Int)) : ∀ u ∈ ptrV m a, u.oneCell' = true := by
  intro u hu
  obtain ⟨x, _, rfl⟩ := List.mem_map.1 hu
  rfl
/-- where a state lies: its block, the slices in it -/
structure Loc where
  sb : Nat
  fs : Value
  Am : Option Addr
  cm : Nat
  Al : Option Addr
  cl : Nat
/-- what a state owns -/
def stL (o : Loc) (m : Nat) (rws : List (Nat × List Int)) (lack tk gv : List Int) : List Res :=
  [box o.sb 56 (stC o.fs (.slice o.Am rws.length o.cm) (.slice o.Al lack.length o.cl) tk gv), ownS 23 1 o.Am rws.length o.cm (ptrV m rws), rowsR rws, ownS 3 1 o.Al lack.length o.cl (intV lack)]
/-- the row of a supply of which nothing is given -/
def row0 (m : Nat) (x : Int) : List Int := List.replicate m 0 ++ [x]
theorem row0_cells (m : Nat) (x : Int) : (List.replicate (m + 1) (Value.int .i64 0)).set m (.int .i64 x) = intV (row0 m x) := by
  have e : List.replicate (m + 1) (Value.int .i64 0) = intV (List.replicate m 0) ++ [.int .i64 0] := by
    rw [List.replicate_succ']; simp [intV]
  rw [e, List.set_append_right _ _ (by simp)]
  simp [row0, intV_append, intV]
theorem rowsR_add (rws : List (Nat × List Int)) (b : Nat) (r : List Int) : many ((rws.map fun x => box x.1 3 (intV x.2)) ++ [box b 3 (intV r)]) = rowsR (rws ++ [(b, r)]) := by simp [rowsR]
set_option maxHeartbeats 4000000 in
set_option maxRecDepth 20000 in
theorem begin_fn (M : Mem) (fA : Option Addr) (fn fc : Nat) (A1 A2 : Option Addr) (c1 c2 : Nat) (sup need : List Int) (hs : Ints M (.slice A1 sup.length c1) sup) (hn : Ints M (.slice A2 need.length c2) need) (ls : sup.length ≤ 64) (ln : need.length ≤ 64) :
    Bf.Fn Try.prog 29 [.slice fA fn fc, .slice A1 sup.length c1, .slice A2 need.length c2] M [] (fun r M' A' => ∃ (o : Loc) (rws : List (Nat × List Int)), r = .pointer (some ⟨o.sb, 0, none⟩) ∧ o.fs = .slice fA fn fc ∧ o.cm ≤ 9223372036854775807 ∧ o.cl ≤ 9223372036854775807 ∧ rws.map (·.2) = sup.map (row0 need.length) ∧ M = M' ∧ A' = stL o (need.length + 1) rws need (List.replicate 64 0) (List.replicate 65 0)) := by
  refine Fn.intro Try.func29 rfl rfl Try.ntmps29 rfl fun E F => ?_
  repeat (first | ((with_reducible refine Tr.step rfl ?_); (first | ((with_reducible refine Knd.move ?_); (refine Exec.stab rfl (Stab.move rfl) rfl ?_)) | ((with_reducible refine Knd.assign ?_); (refine Exec.stab rfl (Stab.assign rfl) rfl ?_)))) | (with_reducible refine Tr.next ?_) | (with_reducible refine Tr.seq ?_) | (with_reducible refine Tr.region ?_) | (with_reducible refine Tr.nil ?_))
  ((refine Tr.step rfl ?_))
  refine Exec.call (A := []) rfl (clone_fn M A2 c2 need hn (by omega)) (List.Perm.refl _) rfl ?_
  rintro _ _ _ _ ⟨⟨B, k, rfl, hk, rfl⟩, rfl⟩
  repeat (first | ((with_reducible refine Tr.step rfl ?_); (first | ((with_reducible refine Knd.move ?_); (refine Exec.stab rfl (Stab.move rfl) rfl ?_)) | ((with_reducible refine Knd.assign ?_); (refine Exec.stab rfl (Stab.assign rfl) rfl ?_)) | ((with_reducible refine Knd.len ?_); ((refine Exec.stab rfl (Stab.len rfl (tysOk.get rfl) rfl) rfl ?_))) | ((with_reducible refine Knd.box ?_); (first | (refine Exec.box rfl rfl (fun b => ?_)) | (refine Exec.box1 rfl (by first | rfl | assumption) rfl (fun b => ?_)))) | ((with_reducible refine Knd.build ?_); ((refine Exec.stab rfl (Stab.build tysOk rfl rfl rfl rfl (by repeat (first | exact BuildP.nil | ((apply BuildP.one); (rfl); (rfl); (first | rfl | assumption); (repeat (first | exact SetL.z | apply SetL.s)))))) rfl ?_))))) | (with_reducible refine Tr.next ?_) | (with_reducible refine Tr.seq ?_) | (with_reducible refine Tr.region ?_) | (with_reducible refine Tr.nil ?_) | (with_reducible refine Tr.block ?_))
  generalize hsb : b = sb
  refine Tr.cells (cs' := stC (.slice fA fn fc) (.slice none 0 0) (.slice B need.length k) (List.replicate 64 0) (List.replicate 65 0)) (by repeat (first | exact Upd.here | apply Upd.there)) rfl ?_
  refine Tr.many_new ?_
  refine Tr.own_nil 23 1 ?_
  refine Tr.loop (α := Nat × List (Nat × List Int) × Option Addr × Nat) (fun y => ⟨43, [(18, .int .i64 y.1), (17, .int .i64 sup.length), (16, .slice A1 sup.length c1), (7, .pointer (some ⟨sb, 0, none⟩)), (2, .slice A2 need.length c2)], [], M,
      ownS 23 1 y.2.2.1 y.2.1.length y.2.2.2 (ptrV (need.length + 1) y.2.1) :: rowsR y.2.1 :: box sb 56 (stC (.slice fA fn fc) (.slice y.2.2.1 y.2.1.length y.2.2.2) (.slice B need.length k) (List.replicate 64 0) (List.replicate 65 0)) :: ownS 3 1 B need.length k (intV need) :: ([] ++ F)⟩)
    (fun y => y.1 ≤ sup.length ∧ y.2.1.map (·.2) = (sup.take y.1).map (row0 need.length) ∧ y.2.2.2 ≤ 9223372036854775807) (fun y => sup.length - y.1) (0, [], none, 0) ⟨by simp, rfl, by simp⟩ (holds_sub (by repeat (first | exact SubFr.nil | refine SubFr.cons rfl ?_)) (by repeat (first | exact DropL.refl | apply DropL.skip))) (fun y hy => ?_)
  obtain ⟨i, rws, Am, cm⟩ := y
  obtain ⟨hi, hrw, hcm⟩ := hy
  simp only at hi hrw hcm
  dsimp only
  have hrl : rws.length = i := by
    have := congrArg List.length hrw
    simpa [Nat.min_eq_left hi] using this
  by_cases hlt : i < sup.length
  rotate_left
  · have e : i = sup.length := by omega
    subst e
    rw [List.take_length] at hrw
    repeat (first | ((with_reducible refine Tr.step rfl ?_); (first | ((with_reducible refine Knd.move ?_); (refine Exec.stab rfl (Stab.move rfl) rfl ?_)) | ((with_reducible refine Knd.assign ?_); (refine Exec.stab rfl (Stab.assign rfl) rfl ?_)) | ((with_reducible refine Knd.binOp ?_); ((refine Exec.stab rfl (Stab.int rfl rfl rfl) rfl ?_))))) | (with_reducible refine Tr.next ?_) | (with_reducible refine Tr.seq ?_) | (with_reducible refine Tr.region ?_) | (with_reducible refine Tr.nil ?_) | (with_reducible refine Tr.exit ?_) | (with_reducible refine Tr.ret ?_) | (with_reducible refine Tr.then_exit ?_) | ((with_reducible refine Tr.in_exit ?_ ?_); (exact rfl)) | (refine Tr.cond_f rfl (by first | (with_reducible assumption) | (with_reducible rfl) | (with_reducible exact (not_not_intro rfl)) | omega) ?_))
    refine Tr.front (x := ownS 3 1 _ _ _ _) (by repeat (first | exact Del.here | apply Del.there)) ?_
    refine Tr.front (x := rowsR _) (by repeat (first | exact Del.here | apply Del.there)) ?_
    refine Tr.front (x := ownS 23 1 _ _ _ _) (by repeat (first | exact Del.here | apply Del.there)) ?_
    refine Tr.front (x := box _ 56 _) (by repeat (first | exact Del.here | apply Del.there)) ?_
    refine Tr.doneA (A' := stL ⟨sb, .slice fA fn fc, Am, cm, B, k⟩ (need.length + 1) rws need (List.replicate 64 0) (List.replicate 65 0)) (by first | exact .inl rfl | exact .inr rfl) rfl (by repeat (first | exact RVs.nil | (apply RVs.cons; (exact RV.tmp rfl)))) (Mem.le.refl _) ⟨fun _ h => h, fun h => h⟩ ⟨⟨sb, .slice fA fn fc, Am, cm, B, k⟩, rws, rfl, rfl, hcm, hk, hrw, rfl, rfl⟩
  obtain ⟨x, hx⟩ := get_of_lt hlt
  obtain ⟨hA, hat⟩ := hs.at hx
  repeat (first | ((with_reducible refine Tr.step rfl ?_); (first | ((with_reducible refine Knd.move ?_); (refine Exec.stab rfl (Stab.move rfl) rfl ?_)) | ((with_reducible refine Knd.assign ?_); (refine Exec.stab rfl (Stab.assign rfl) rfl ?_)) | ((with_reducible refine Knd.load ?_); ((refine Exec.stab rfl (Stab.loadM rfl (tysOk.get rfl) rfl (by assumption)) rfl ?_))) | ((with_reducible refine Knd.len ?_); ((refine Exec.stab rfl (Stab.len rfl (tysOk.get rfl) rfl) rfl ?_))) | ((with_reducible refine Knd.binOp ?_); (first | (refine Exec.stab rfl (Stab.addi rfl rfl (by omega)) rfl ?_) | (refine Exec.stab rfl (Stab.int rfl rfl rfl) rfl ?_))) | ((with_reducible refine Knd.indexAddr ?_); (first | (refine Exec.stab rfl (Stab.indexB0 rfl rfl (tysOk.get rfl) rfl (tysOk.get rfl) rfl (by omega) (by omega)) rfl ?_) | (refine Exec.stab rfl (Stab.indexAddr rfl rfl (tysOk.get rfl) rfl (tysOk.get rfl) rfl (by omega) (by omega) (by first | rfl | assumption)) rfl ?_))) | ((with_reducible refine Knd.makeSlice ?_); (refine Exec.make rfl rfl (tysOk.get rfl) rfl (tysOk.get rfl) rfl rfl rfl (by omega) (by omega) (by first | omega | (simp; done) | (simp; omega)) (by omega) rfl (fun b => ?_))))) | (with_reducible refine Tr.next ?_) | (with_reducible refine Tr.seq ?_) | (with_reducible refine Tr.region ?_) | (with_reducible refine Tr.nil ?_) | (with_reducible refine Tr.skip ?_) | (with_reducible refine Tr.block ?_) | (refine Tr.cond_t rfl (by first | (with_reducible assumption) | (with_reducible rfl) | (with_reducible exact (not_not_intro rfl)) | omega) ?_))
  rw [show ((need.length : Int) + 1).toNat = need.length + 1 by omega]
  have hz : (List.replicate (need.length + 1) (Value.int .i64 0)).length = need.length + 1 := by simp
  generalize hb2 : b = b2
  repeat (first | ((with_reducible refine Tr.step rfl ?_); (first | ((with_reducible refine Knd.move ?_); (refine Exec.stab rfl (Stab.move rfl) rfl ?_)) | ((with_reducible refine Knd.load ?_); ((refine Exec.stab rfl (Stab.load rfl (tysOk.get rfl) rfl (by repeat (first | exact Has.here | apply Has.there)) rfl) rfl ?_))) | ((with_reducible refine Knd.fieldAddr ?_); ((refine Exec.stab rfl (Stab.fieldZ rfl (tysOk.get rfl) rfl rfl (tysOk.get rfl) rfl) rfl ?_))) | ((with_reducible refine Knd.nilCheck ?_); (refine Exec.stab rfl (Stab.nilCheck rfl) rfl ?_)) | ((with_reducible refine Knd.store ?_); ((refine Exec.storeS rfl rfl (tysOk.get rfl) rfl (by first | rfl | assumption) (by repeat (first | exact Upd.here | apply Upd.there)) (by omega) ?_))) | ((with_reducible refine Knd.buildSlice ?_); ((refine Exec.buildSlice (tysOk.get rfl) rfl (tysOk.get rfl) rfl rfl rfl rfl rfl (by repeat (first | exact BuildP.nil | ((apply BuildP.one); (rfl); (rfl); (first | rfl | assumption); (repeat (first | exact SetL.z | apply SetL.s))))) rfl (fun b => ?_)))))) | (with_reducible refine Tr.next ?_) | (with_reducible refine Tr.region ?_) | (with_reducible refine Tr.nil ?_))
  refine Tr.cells (cs' := intV (row0 need.length x)) (by repeat (first | exact Upd.here | apply Upd.there)) (row0_cells _ _) ?_
  ((refine Tr.step rfl ?_))
  refine Exec.append (news := ptrV (need.length + 1) [(b2, row0 need.length x)]) rfl rfl (tysOk.get rfl) rfl (tysOk.get rfl) rfl rfl rfl rfl (by repeat (first | exact Del.here | apply Del.there)) (Src.box (by repeat (first | exact Has.here | apply Has.there))) (by simp) (ptrV_one _ _) (by omega) (by omega) rfl (fun A6 c6 hc6 => ?_)
  rw [← ptrV_append, show rws.length + 1 = (rws ++ [(b2, row0 need.length x)]).length by simp]
  repeat (first | ((with_reducible refine Tr.step rfl ?_); (first | ((with_reducible refine Knd.move ?_); (refine Exec.stab rfl (Stab.move rfl) rfl ?_)) | ((with_reducible refine Knd.fieldAddr ?_); ((refine Exec.stab rfl (Stab.fieldZ rfl (tysOk.get rfl) rfl rfl (tysOk.get rfl) rfl) rfl ?_))) | ((with_reducible refine Knd.nilCheck ?_); (refine Exec.stab rfl (Stab.nilCheck rfl) rfl ?_)) | ((with_reducible refine Knd.binOp ?_); ((refine Exec.stab rfl (Stab.addi rfl rfl (by omega)) rfl ?_))) | ((with_reducible refine Knd.store ?_); ((refine Exec.store rfl rfl (tysOk.get rfl) rfl (by first | rfl | assumption) (by repeat (first | exact Upd.here | apply Upd.there)) (by repeat (first | exact SetL.z | apply SetL.s)) ?_))))) | (with_reducible refine Tr.next ?_) | (with_reducible refine Tr.region ?_) | (with_reducible refine Tr.nil ?_) | (with_reducible refine Tr.in_normal ?_))
  refine Tr.cells (cs' := stC (.slice fA fn fc) (.slice A6 (rws ++ [(b2, row0 need.length x)]).length c6) (.slice B need.length k) (List.replicate 64 0) (List.replicate 65 0)) (by repeat (first | exact Upd.here | apply Upd.there)) rfl ?_
  refine Tr.front (x := rowsR _) (by repeat (first | exact Del.here | apply Del.there)) ?_
  refine Tr.front (x := box b2 3 _) (by repeat (first | exact Del.here | apply Del.there)) ?_
  refine Tr.many_add ?_
  rw [rowsR_add]
  refine Tr.give (r := box _ 23 _) (by repeat (first | exact Del.here | apply Del.there)) ?_
  refine Tr.front (x := ownS 23 1 _ _ _ _) (by repeat (first | exact Del.here | apply Del.there)) ?_
  refine Tr.again (i + 1, rws ++ [(b2, row0 need.length x)], A6, c6) ⟨by simp only; omega, ?_, hc6⟩ (by simp only; omega) (holds_sub (by repeat (first | exact SubFr.nil | refine SubFr.cons rfl ?_)) (by repeat (first | exact DropL.refl | apply DropL.skip)))
  simp only [List.map_append, hrw, List.map_cons, List.map_nil]
  rw [List.take_add_one, hx]
  simp
end Go.Proofs.Ytmioocddmlfboaa
