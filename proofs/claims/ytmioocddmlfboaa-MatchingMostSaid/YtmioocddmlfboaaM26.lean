/-
  Matching: the contract of sane.
  Conditions: none.
-/
import Derived.Test.YtmioocddmlfboaaM25
import Derived.Test.YtmioocddmlfboaaM20
namespace Go.Proofs.Ytmioocddmlfboaa
open Go Bf
attribute [local irreducible] Tr Exec Stab HasTy Go.Addr.add IntKind.wrap
theorem FlowR.yes {fits : List (List Bool)} {sup need : List Int} {r : Value} {M' : Mem} (h : FlowR fits sup need r M') (hv : validF fits sup need = true) (hf : Feas (pbOf fits sup need)) :
    ∃ a, LexMax (pbOf fits sup need) a ∧ ∃ A c, r = .tuple #[.slice A (allocOf a need.length sup.length).length c, .bool true, .slice none 0 0, .int .i64 0] ∧ Ints2 M' (.slice A (allocOf a need.length sup.length).length c) (allocOf a need.length sup.length) := by
  rcases h with ⟨h, -⟩ | ⟨-, h, -⟩ | ⟨-, h⟩
  · rw [hv] at h; cases h
  · exact absurd hf h
  · exact h
theorem FlowR.no {fits : List (List Bool)} {sup need : List Int} {r : Value} {M' : Mem} (h : FlowR fits sup need r M') (hv : validF fits sup need = true) (hf : ¬ Feas (pbOf fits sup need)) {l : List Int} (hl : memF (cutFin fits sup need) need.length = l) :
    ∃ B k, r = .tuple #[.slice none 0 0, .bool false, .slice B l.length k, .int .i64 0] ∧ Ints M' (.slice B l.length k) l := by
  subst hl
  rcases h with ⟨h, -⟩ | ⟨-, -, h⟩ | ⟨-, a, h, -⟩
  · rw [hv] at h; cases h
  · exact h
  · exact absurd ⟨a, h.1⟩ hf
theorem CheckR.yes {fits : List (List Bool)} {sup need : List Int} {am : List (List Int)} {r : Value} (h : CheckR fits sup need am r) (hv : validF fits sup need = true) (hc : CheckP fits sup need am) : r = .tuple #[.bool true, .int .i64 0] := by
  rcases h with ⟨h, -⟩ | ⟨-, b, rfl, hb⟩
  · rw [hv] at h; cases h
  · rw [hb.2 hc]
theorem CheckR.bad {fits : List (List Bool)} {sup need : List Int} {am : List (List Int)} {r : Value} (h : CheckR fits sup need am r) (hv : validF fits sup need = false) : r = .tuple #[.bool false, .int .i64 300] := by
  rcases h with ⟨-, rfl⟩ | ⟨h, -⟩
  · rfl
  · rw [vld_iff.2 h] at hv; cases hv
theorem CutR.yes {fits : List (List Bool)} {sup need l : List Int} {r : Value} (h : CutR fits sup need l r) (hv : validF fits sup need = true) (hc : CutP fits sup need l) : r = .tuple #[.bool true, .int .i64 0] := by
  rcases h with ⟨h, -⟩ | ⟨-, b, rfl, hb⟩
  · rw [hv] at h; cases h
  · rw [hb.2 hc]
theorem CutR.not {fits : List (List Bool)} {sup need l : List Int} {r : Value} (h : CutR fits sup need l r) (hv : validF fits sup need = true) (hc : ¬ CutP fits sup need l) : r = .tuple #[.bool false, .int .i64 0] := by
  rcases h with ⟨h, -⟩ | ⟨-, b, rfl, hb⟩
  · rw [hv] at h; cases h
  · cases b
    · rfl
    · exact absurd (hb.1 rfl) hc
theorem ofI {M : Mem} {b t : Nat} {l : List Int} (h : (box b t (intV l)).ok M) (hl : l.length ≤ 100) : Ints M (.slice (some ⟨b, 0, none⟩) l.length l.length) l := Ints.ofBox h (by omega)
theorem RBo.elems (M : Mem) (l : List Bool) : Elems 1 RBo M (boV l) l := by
  refine ⟨by simp, fun i x hx => ?_⟩
  show _ = _
  rw [Nat.mul_one, List.take_one, List.head?_drop, boV_get hx]
  rfl
theorem ofB {M : Mem} {b t : Nat} {l : List Bool} (h : (box b t (boV l)).ok M) (hl : l.length ≤ 100) : Bools M (.slice (some ⟨b, 0, none⟩) l.length l.length) l := SlOf.ofBox h (by intro u hu; obtain ⟨x, _, rfl⟩ := List.mem_map.1 hu; rfl) (by omega) (RBo.elems M l)
theorem ofF1 {M : Mem} {b t : Nat} {A : Option Addr} {c : Nat} {x : List Bool} (h : (box b t [.slice A x.length c]).ok M) (hx : Bools M (.slice A x.length c) x) : Fits2 M (.slice (some ⟨b, 0, none⟩) [x].length [x].length) [x] :=
  SlOf.ofBox h (by intro u hu; simp at hu; subst hu; rfl) (by simp) (Elems.one rfl ⟨A, c, rfl, hx⟩)
theorem ofF2 {M : Mem} {b t : Nat} {A B : Option Addr} {c d : Nat} {x y : List Bool} (h : (box b t [.slice A x.length c, .slice B y.length d]).ok M) (hx : Bools M (.slice A x.length c) x) (hy : Bools M (.slice B y.length d) y) : Fits2 M (.slice (some ⟨b, 0, none⟩) [x, y].length [x, y].length) [x, y] :=
  SlOf.ofBox h (by intro u hu; simp at hu; rcases hu with rfl | rfl <;> rfl) (by simp) ((Elems.one (cs := [.slice A x.length c]) rfl ⟨A, c, rfl, hx⟩).append (Elems.one (cs := [.slice B y.length d]) rfl ⟨B, d, rfl, hy⟩))
theorem ofA1 {M : Mem} {b t : Nat} {A : Option Addr} {c : Nat} {x : List Int} (h : (box b t [.slice A x.length c]).ok M) (hx : Ints M (.slice A x.length c) x) : Ints2 M (.slice (some ⟨b, 0, none⟩) [x].length [x].length) [x] :=
  SlOf.ofBox h (by intro u hu; simp at hu; subst hu; rfl) (by simp) (Elems.one rfl ⟨A, c, rfl, hx⟩)
theorem ofA2 {M : Mem} {b t : Nat} {A B : Option Addr} {c d : Nat} {x y : List Int} (h : (box b t [.slice A x.length c, .slice B y.length d]).ok M) (hx : Ints M (.slice A x.length c) x) (hy : Ints M (.slice B y.length d) y) : Ints2 M (.slice (some ⟨b, 0, none⟩) [x, y].length [x, y].length) [x, y] :=
  SlOf.ofBox h (by intro u hu; simp at hu; rcases hu with rfl | rfl <;> rfl) (by simp) ((Elems.one (cs := [.slice A x.length c]) rfl ⟨A, c, rfl, hx⟩).append (Elems.one (cs := [.slice B y.length d]) rfl ⟨B, d, rfl, hy⟩))
set_option maxHeartbeats 16000000 in
set_option maxRecDepth 20000 in
theorem sane_fn (M0 : Mem) : Fn0 Try.prog 9 [] M0 (fun r _ => r = .bool true) := by
  have r64 : ∀ l : List Int, (l.all fun x => decide (-9223372036854775808 ≤ x) && decide (x ≤ 9223372036854775807)) = true → I64s l := fun l h x hx => by
    have := List.all_eq_true.1 h x hx
    simpa using this
  refine Fn.intro Try.func9 rfl rfl Try.ntmps9 rfl fun E F => ?_
  refine Tr.seq ?_
  refine Tr.cut (α := Unit) (fun _ => ⟨232, [], [], M0, F⟩) (fun _ => True) ?_ (fun _ _ => ?_)
  · repeat (first | ((with_reducible refine Tr.step rfl ?_); (((with_reducible refine Knd.assign ?_); (refine Exec.stab rfl (Stab.assign rfl) rfl ?_)))) | (with_reducible refine Tr.region ?_) | (with_reducible refine Tr.nil ?_))
    refine Tr.land () trivial (holds_sub (by repeat (first | exact SubFr.nil | refine SubFr.cons rfl ?_)) (by repeat (first | exact DropL.refl | apply DropL.skip)))
  first | (refine Tr.seq ?_) | (refine Tr.next ?_; refine Tr.seq ?_)
  refine Tr.cut (α := Mem × Nat) (fun y => ⟨232, [(1, .slice (some ⟨y.2, 0, none⟩) 1 1)], [], y.1, F⟩) (fun y => Mem.le M0 y.1 ∧ Fits2 y.1 (.slice (some ⟨y.2, 0, none⟩) 1 1) ([[true, true]] : List (List Bool))) ?_ (fun y hy => ?_)
  · skip
    repeat (first | ((with_reducible refine Tr.step rfl ?_); (first | ((with_reducible refine Knd.assign ?_); (refine Exec.stab rfl (Stab.assign rfl) rfl ?_)) | ((with_reducible refine Knd.buildSlice ?_); ((refine Exec.buildSlice (tysOk.get rfl) rfl (tysOk.get rfl) rfl rfl rfl rfl rfl (by repeat (first | exact BuildP.nil | ((apply BuildP.one); (rfl); (rfl); (first | rfl | assumption); (repeat (first | exact SetL.z | apply SetL.s))))) rfl (fun b => ?_)))))) | (with_reducible refine Tr.region ?_) | (with_reducible refine Tr.nil ?_))
    refine Tr.publish (r := box _ 4 _) (by repeat (first | exact Del.here | apply Del.there)) (fun N1 hm1 hok => ?_)
    have hb1 := ofB (l := [true, true]) hok (by decide)
    clear hok
    refine Tr.publish (r := box _ 43 _) (by repeat (first | exact Del.here | apply Del.there)) (fun N2 hm2 hok => ?_)
    have hboth := ofF1 (x := [true, true]) hok (hb1.mono RBo.mono hm2)
    clear hok
    repeat (fail)
    refine Tr.land (N2, _) ⟨(hm1.trans hm2), hboth⟩ (holds_sub (by repeat (first | exact SubFr.nil | refine SubFr.cons rfl ?_)) (by repeat (first | exact DropL.refl | apply DropL.skip)))
  obtain ⟨M1, bb⟩ := y
  obtain ⟨hg1, hboth⟩ := hy
  dsimp only at hg1 hboth ⊢
  first | (refine Tr.seq ?_) | (refine Tr.next ?_; refine Tr.seq ?_)
  refine Tr.cut (α := Mem) (fun y => ⟨232, [(1, .slice (some ⟨bb, 0, none⟩) 1 1), (3, .bool true), (5, .int .i64 0)], [], y, F⟩) (fun y => Mem.le M1 y) ?_ (fun y hy => ?_)
  · skip
    repeat ((with_reducible refine Tr.region ?_))
    ((refine Tr.step rfl ?_))
    refine Exec.call0 rfl (flow_fn M1 _ _ _ _ _ _ ([] : List (List Bool)) ([] : List Int) ([] : List Int)  (SlOf.nil _ _ _) (SlOf.nil _ _ _) (SlOf.nil _ _ _)  (r64 _ (by decide)) (r64 _ (by decide))) rfl ?_
    rintro _ N1 hm1 hR
    obtain ⟨a, -, A, c, rfl, -⟩ := hR.yes rfl x1_yes
    clear hR
    repeat (first | ((with_reducible refine Tr.step rfl ?_); (first | ((with_reducible refine Knd.move ?_); (refine Exec.stab rfl (Stab.move rfl) rfl ?_)) | ((with_reducible refine Knd.assign ?_); (refine Exec.stab rfl (Stab.assign rfl) rfl ?_)) | ((with_reducible refine Knd.extract ?_); (refine Exec.stab rfl (Stab.extract rfl rfl) rfl ?_)))) | (with_reducible refine Tr.nil ?_))
    refine Tr.land N1 hm1 (holds_sub (by repeat (first | exact SubFr.nil | refine SubFr.cons rfl ?_)) (by repeat (first | exact DropL.refl | apply DropL.skip)))
  generalize y = M2 at *
  have hg2 := hy
  replace hboth := hboth.mono RRowB.mono hg2
  first | (refine Tr.seq ?_) | (refine Tr.next ?_; refine Tr.seq ?_)
  refine Tr.cut (α := Mem × Option Addr × Nat) (fun y => ⟨232, [(1, .slice (some ⟨bb, 0, none⟩) 1 1), (3, .bool true), (5, .int .i64 0), (7, .bool false), (8, .slice y.2.1 1 y.2.2), (9, .int .i64 0)], [], y.1, F⟩) (fun y => Mem.le M2 y.1 ∧ Ints y.1 (.slice y.2.1 1 y.2.2) ([0] : List Int)) ?_ (fun y hy => ?_)
  · skip
    repeat (first | ((with_reducible refine Tr.step rfl ?_); (((with_reducible refine Knd.buildSlice ?_); ((refine Exec.buildSlice (tysOk.get rfl) rfl (tysOk.get rfl) rfl rfl rfl rfl rfl (by repeat (first | exact BuildP.nil | ((apply BuildP.one); (rfl); (rfl); (first | rfl | assumption); (repeat (first | exact SetL.z | apply SetL.s))))) rfl (fun b => ?_)))))) | (with_reducible refine Tr.region ?_))
    refine Tr.publish (r := box _ 3 _) (by repeat (first | exact Del.here | apply Del.there)) (fun N1 hm1 hok => ?_)
    have hn := ofI (l := [1]) hok (by decide)
    clear hok
    ((refine Tr.step rfl ?_))
    refine Exec.call0 rfl (flow_fn N1 _ _ _ _ _ _ ([] : List (List Bool)) ([] : List Int) ([1] : List Int)  (SlOf.nil _ _ _) (SlOf.nil _ _ _) hn  (r64 _ (by decide)) (r64 _ (by decide))) rfl ?_
    rintro _ N2 hm2 hR
    obtain ⟨B, c, rfl, hI⟩ := hR.no rfl x2_no x2_cut
    clear hR
    repeat (first | ((with_reducible refine Tr.step rfl ?_); (first | ((with_reducible refine Knd.move ?_); (refine Exec.stab rfl (Stab.move rfl) rfl ?_)) | ((with_reducible refine Knd.assign ?_); (refine Exec.stab rfl (Stab.assign rfl) rfl ?_)) | ((with_reducible refine Knd.extract ?_); (refine Exec.stab rfl (Stab.extract rfl rfl) rfl ?_)))) | (with_reducible refine Tr.nil ?_))
    refine Tr.land (N2, B, c) ⟨(hm1.trans hm2), hI⟩ (holds_sub (by repeat (first | exact SubFr.nil | refine SubFr.cons rfl ?_)) (by repeat (first | exact DropL.refl | apply DropL.skip)))
  obtain ⟨M3, B2, k2⟩ := y
  obtain ⟨hg3, hcut2⟩ := hy
  dsimp only at hg3 hcut2 ⊢
  replace hboth := hboth.mono RRowB.mono hg3
  first | (refine Tr.seq ?_) | (refine Tr.next ?_; refine Tr.seq ?_)
  refine Tr.cut (α := Mem × Option Addr × Nat) (fun y => ⟨232, [(1, .slice (some ⟨bb, 0, none⟩) 1 1), (3, .bool true), (5, .int .i64 0), (7, .bool false), (8, .slice B2 1 k2), (9, .int .i64 0), (11, .bool false), (12, .slice y.2.1 2 y.2.2), (13, .int .i64 0)], [], y.1, F⟩) (fun y => Mem.le M3 y.1 ∧ Ints y.1 (.slice y.2.1 2 y.2.2) ([0, 1] : List Int)) ?_ (fun y hy => ?_)
  · skip
    repeat (first | ((with_reducible refine Tr.step rfl ?_); (first | ((with_reducible refine Knd.move ?_); (refine Exec.stab rfl (Stab.move rfl) rfl ?_)) | ((with_reducible refine Knd.buildSlice ?_); ((refine Exec.buildSlice (tysOk.get rfl) rfl (tysOk.get rfl) rfl rfl rfl rfl rfl (by repeat (first | exact BuildP.nil | ((apply BuildP.one); (rfl); (rfl); (first | rfl | assumption); (repeat (first | exact SetL.z | apply SetL.s))))) rfl (fun b => ?_)))))) | (with_reducible refine Tr.region ?_))
    refine Tr.publish (r := box _ 3 _) (by repeat (first | exact Del.here | apply Del.there)) (fun N1 hm1 hok => ?_)
    have hn := ofI (l := [2, 2]) hok (by decide)
    clear hok
    refine Tr.publish (r := box _ 3 _) (by repeat (first | exact Del.here | apply Del.there)) (fun N2 hm2 hok => ?_)
    have hs := ofI (l := [3]) hok (by decide)
    clear hok
    ((refine Tr.step rfl ?_))
    refine Exec.call0 rfl (flow_fn N2 _ _ _ _ _ _ ([[true, true]] : List (List Bool)) ([3] : List Int) ([2, 2] : List Int)  (hboth.mono RRowB.mono (hm1.trans hm2)) hs (hn.mono RI.mono hm2)  (r64 _ (by decide)) (r64 _ (by decide))) rfl ?_
    rintro _ N3 hm3 hR
    obtain ⟨B, c, rfl, hI⟩ := hR.no rfl x3_no x3_cut
    clear hR
    repeat (first | ((with_reducible refine Tr.step rfl ?_); (first | ((with_reducible refine Knd.move ?_); (refine Exec.stab rfl (Stab.move rfl) rfl ?_)) | ((with_reducible refine Knd.assign ?_); (refine Exec.stab rfl (Stab.assign rfl) rfl ?_)) | ((with_reducible refine Knd.extract ?_); (refine Exec.stab rfl (Stab.extract rfl rfl) rfl ?_)))) | (with_reducible refine Tr.nil ?_))
    refine Tr.land (N3, B, c) ⟨(hm1.trans (hm2.trans hm3)), hI⟩ (holds_sub (by repeat (first | exact SubFr.nil | refine SubFr.cons rfl ?_)) (by repeat (first | exact DropL.refl | apply DropL.skip)))
  obtain ⟨M4, B3, k3⟩ := y
  obtain ⟨hg4, hcut3⟩ := hy
  dsimp only at hg4 hcut3 ⊢
  replace hboth := hboth.mono RRowB.mono hg4
  replace hcut2 := hcut2.mono RI.mono hg4
  first | (refine Tr.seq ?_) | (refine Tr.next ?_; refine Tr.seq ?_)
  refine Tr.cut (α := Mem × Option Addr × Nat) (fun y => ⟨232, [(1, .slice (some ⟨bb, 0, none⟩) 1 1), (3, .bool true), (5, .int .i64 0), (7, .bool false), (8, .slice B2 1 k2), (9, .int .i64 0), (11, .bool false), (12, .slice B3 2 k3), (13, .int .i64 0), (14, .slice y.2.1 2 y.2.2), (15, .bool true), (17, .int .i64 0)], [], y.1, F⟩) (fun y => Mem.le M4 y.1 ∧ Ints2 y.1 (.slice y.2.1 2 y.2.2) ([[2], [1]] : List (List Int))) ?_ (fun y hy => ?_)
  · skip
    repeat (first | ((with_reducible refine Tr.step rfl ?_); (((with_reducible refine Knd.buildSlice ?_); ((refine Exec.buildSlice (tysOk.get rfl) rfl (tysOk.get rfl) rfl rfl rfl rfl rfl (by repeat (first | exact BuildP.nil | ((apply BuildP.one); (rfl); (rfl); (first | rfl | assumption); (repeat (first | exact SetL.z | apply SetL.s))))) rfl (fun b => ?_)))))) | (with_reducible refine Tr.region ?_))
    refine Tr.publish (r := box _ 3 _) (by repeat (first | exact Del.here | apply Del.there)) (fun N1 hm1 hok => ?_)
    have hn := ofI (l := [3]) hok (by decide)
    clear hok
    refine Tr.publish (r := box _ 3 _) (by repeat (first | exact Del.here | apply Del.there)) (fun N2 hm2 hok => ?_)
    have hs := ofI (l := [2, 2]) hok (by decide)
    clear hok
    refine Tr.publish (r := box _ 4 _) (by repeat (first | exact Del.here | apply Del.there)) (fun N3 hm3 hok => ?_)
    have hb2_ := ofB (l := [true]) hok (by decide)
    clear hok
    refine Tr.publish (r := box _ 4 _) (by repeat (first | exact Del.here | apply Del.there)) (fun N4 hm4 hok => ?_)
    have hb1_ := ofB (l := [true]) hok (by decide)
    clear hok
    refine Tr.publish (r := box _ 43 _) (by repeat (first | exact Del.here | apply Del.there)) (fun N5 hm5 hok => ?_)
    have hf := ofF2 (x := [true]) (y := [true]) hok (hb1_.mono RBo.mono hm5) (hb2_.mono RBo.mono (hm4.trans hm5))
    clear hok
    ((refine Tr.step rfl ?_))
    refine Exec.call0 rfl (flow_fn N5 _ _ _ _ _ _ ([[true], [true]] : List (List Bool)) ([2, 2] : List Int) ([3] : List Int)  hf (hs.mono RI.mono (hm3.trans (hm4.trans hm5))) (hn.mono RI.mono (hm2.trans (hm3.trans (hm4.trans hm5))))  (r64 _ (by decide)) (r64 _ (by decide))) rfl ?_
    rintro _ N6 hm6 hR
    obtain ⟨a, hmax, A, c, rfl, hI⟩ := hR.yes rfl x4_yes
    clear hR
    rw [show allocOf a ([3] : List Int).length ([2, 2] : List Int).length = [[2], [1]] from x4_max hmax] at hI ⊢
    repeat (first | ((with_reducible refine Tr.step rfl ?_); (first | ((with_reducible refine Knd.move ?_); (refine Exec.stab rfl (Stab.move rfl) rfl ?_)) | ((with_reducible refine Knd.assign ?_); (refine Exec.stab rfl (Stab.assign rfl) rfl ?_)) | ((with_reducible refine Knd.extract ?_); (refine Exec.stab rfl (Stab.extract rfl rfl) rfl ?_)))) | (with_reducible refine Tr.nil ?_))
    refine Tr.land (N6, A, c) ⟨(hm1.trans (hm2.trans (hm3.trans (hm4.trans (hm5.trans hm6))))), hI⟩ (holds_sub (by repeat (first | exact SubFr.nil | refine SubFr.cons rfl ?_)) (by repeat (first | exact DropL.refl | apply DropL.skip)))
  obtain ⟨M5, B4, k4⟩ := y
  obtain ⟨hg5, ham4⟩ := hy
  dsimp only at hg5 ham4 ⊢
  replace hboth := hboth.mono RRowB.mono hg5
  replace hcut2 := hcut2.mono RI.mono hg5
  replace hcut3 := hcut3.mono RI.mono hg5
  first | (refine Tr.seq ?_) | (refine Tr.next ?_; refine Tr.seq ?_)
  refine Tr.cut (α := Mem × Option Addr × Nat) (fun y => ⟨232, [(1, .slice (some ⟨bb, 0, none⟩) 1 1), (3, .bool true), (5, .int .i64 0), (7, .bool false), (8, .slice B2 1 k2), (9, .int .i64 0), (11, .bool false), (12, .slice B3 2 k3), (13, .int .i64 0), (14, .slice B4 2 k4), (15, .bool true), (17, .int .i64 0), (18, .slice y.2.1 2 y.2.2), (19, .bool true), (21, .int .i64 0)], [], y.1, F⟩) (fun y => Mem.le M5 y.1 ∧ Ints2 y.1 (.slice y.2.1 2 y.2.2) ([[1, 2], [1, 0]] : List (List Int))) ?_ (fun y hy => ?_)
  · skip
    repeat (first | ((with_reducible refine Tr.step rfl ?_); (((with_reducible refine Knd.buildSlice ?_); ((refine Exec.buildSlice (tysOk.get rfl) rfl (tysOk.get rfl) rfl rfl rfl rfl rfl (by repeat (first | exact BuildP.nil | ((apply BuildP.one); (rfl); (rfl); (first | rfl | assumption); (repeat (first | exact SetL.z | apply SetL.s))))) rfl (fun b => ?_)))))) | (with_reducible refine Tr.region ?_))
    refine Tr.publish (r := box _ 3 _) (by repeat (first | exact Del.here | apply Del.there)) (fun N1 hm1 hok => ?_)
    have hn := ofI (l := [2, 2]) hok (by decide)
    clear hok
    refine Tr.publish (r := box _ 3 _) (by repeat (first | exact Del.here | apply Del.there)) (fun N2 hm2 hok => ?_)
    have hs := ofI (l := [3, 3]) hok (by decide)
    clear hok
    refine Tr.publish (r := box _ 4 _) (by repeat (first | exact Del.here | apply Del.there)) (fun N3 hm3 hok => ?_)
    have hb2_ := ofB (l := [true, false]) hok (by decide)
    clear hok
    refine Tr.publish (r := box _ 4 _) (by repeat (first | exact Del.here | apply Del.there)) (fun N4 hm4 hok => ?_)
    have hb1_ := ofB (l := [true, true]) hok (by decide)
    clear hok
    refine Tr.publish (r := box _ 43 _) (by repeat (first | exact Del.here | apply Del.there)) (fun N5 hm5 hok => ?_)
    have hf := ofF2 (x := [true, true]) (y := [true, false]) hok (hb1_.mono RBo.mono hm5) (hb2_.mono RBo.mono (hm4.trans hm5))
    clear hok
    ((refine Tr.step rfl ?_))
    refine Exec.call0 rfl (flow_fn N5 _ _ _ _ _ _ ([[true, true], [true, false]] : List (List Bool)) ([3, 3] : List Int) ([2, 2] : List Int)  hf (hs.mono RI.mono (hm3.trans (hm4.trans hm5))) (hn.mono RI.mono (hm2.trans (hm3.trans (hm4.trans hm5))))  (r64 _ (by decide)) (r64 _ (by decide))) rfl ?_
    rintro _ N6 hm6 hR
    obtain ⟨a, hmax, A, c, rfl, hI⟩ := hR.yes rfl x5_yes
    clear hR
    rw [show allocOf a ([2, 2] : List Int).length ([3, 3] : List Int).length = [[1, 2], [1, 0]] from x5_max hmax] at hI ⊢
    repeat (first | ((with_reducible refine Tr.step rfl ?_); (first | ((with_reducible refine Knd.move ?_); (refine Exec.stab rfl (Stab.move rfl) rfl ?_)) | ((with_reducible refine Knd.assign ?_); (refine Exec.stab rfl (Stab.assign rfl) rfl ?_)) | ((with_reducible refine Knd.extract ?_); (refine Exec.stab rfl (Stab.extract rfl rfl) rfl ?_)))) | (with_reducible refine Tr.nil ?_))
    refine Tr.land (N6, A, c) ⟨(hm1.trans (hm2.trans (hm3.trans (hm4.trans (hm5.trans hm6))))), hI⟩ (holds_sub (by repeat (first | exact SubFr.nil | refine SubFr.cons rfl ?_)) (by repeat (first | exact DropL.refl | apply DropL.skip)))
  obtain ⟨M6, B5, k5⟩ := y
  obtain ⟨hg6, ham5⟩ := hy
  dsimp only at hg6 ham5 ⊢
  replace hboth := hboth.mono RRowB.mono hg6
  replace hcut2 := hcut2.mono RI.mono hg6
  replace hcut3 := hcut3.mono RI.mono hg6
  replace ham4 := ham4.mono RRowI.mono hg6
  first | (refine Tr.seq ?_) | (refine Tr.next ?_; refine Tr.seq ?_)
  refine Tr.cut (α := Mem × Option Addr × Nat) (fun y => ⟨232, [(1, .slice (some ⟨bb, 0, none⟩) 1 1), (3, .bool true), (5, .int .i64 0), (7, .bool false), (8, .slice B2 1 k2), (9, .int .i64 0), (11, .bool false), (12, .slice B3 2 k3), (13, .int .i64 0), (14, .slice B4 2 k4), (15, .bool true), (17, .int .i64 0), (18, .slice B5 2 k5), (19, .bool true), (21, .int .i64 0), (23, .bool false), (24, .slice y.2.1 1 y.2.2), (25, .int .i64 0)], [], y.1, F⟩) (fun y => Mem.le M6 y.1 ∧ Ints y.1 (.slice y.2.1 1 y.2.2) ([0] : List Int)) ?_ (fun y hy => ?_)
  · skip
    repeat (first | ((with_reducible refine Tr.step rfl ?_); (((with_reducible refine Knd.buildSlice ?_); ((refine Exec.buildSlice (tysOk.get rfl) rfl (tysOk.get rfl) rfl rfl rfl rfl rfl (by repeat (first | exact BuildP.nil | ((apply BuildP.one); (rfl); (rfl); (first | rfl | assumption); (repeat (first | exact SetL.z | apply SetL.s))))) rfl (fun b => ?_)))))) | (with_reducible refine Tr.region ?_))
    refine Tr.publish (r := box _ 3 _) (by repeat (first | exact Del.here | apply Del.there)) (fun N1 hm1 hok => ?_)
    have hn := ofI (l := [2, 3, 3]) hok (by decide)
    clear hok
    refine Tr.publish (r := box _ 3 _) (by repeat (first | exact Del.here | apply Del.there)) (fun N2 hm2 hok => ?_)
    have hs := ofI (l := [1, 5]) hok (by decide)
    clear hok
    refine Tr.publish (r := box _ 4 _) (by repeat (first | exact Del.here | apply Del.there)) (fun N3 hm3 hok => ?_)
    have hb2_ := ofB (l := [false, true, true]) hok (by decide)
    clear hok
    refine Tr.publish (r := box _ 4 _) (by repeat (first | exact Del.here | apply Del.there)) (fun N4 hm4 hok => ?_)
    have hb1_ := ofB (l := [true, false, true]) hok (by decide)
    clear hok
    refine Tr.publish (r := box _ 43 _) (by repeat (first | exact Del.here | apply Del.there)) (fun N5 hm5 hok => ?_)
    have hf := ofF2 (x := [true, false, true]) (y := [false, true, true]) hok (hb1_.mono RBo.mono hm5) (hb2_.mono RBo.mono (hm4.trans hm5))
    clear hok
    ((refine Tr.step rfl ?_))
    refine Exec.call0 rfl (flow_fn N5 _ _ _ _ _ _ ([[true, false, true], [false, true, true]] : List (List Bool)) ([1, 5] : List Int) ([2, 3, 3] : List Int)  hf (hs.mono RI.mono (hm3.trans (hm4.trans hm5))) (hn.mono RI.mono (hm2.trans (hm3.trans (hm4.trans hm5))))  (r64 _ (by decide)) (r64 _ (by decide))) rfl ?_
    rintro _ N6 hm6 hR
    obtain ⟨B, c, rfl, hI⟩ := hR.no rfl x6_no x6_cut
    clear hR
    repeat (first | ((with_reducible refine Tr.step rfl ?_); (first | ((with_reducible refine Knd.move ?_); (refine Exec.stab rfl (Stab.move rfl) rfl ?_)) | ((with_reducible refine Knd.assign ?_); (refine Exec.stab rfl (Stab.assign rfl) rfl ?_)) | ((with_reducible refine Knd.extract ?_); (refine Exec.stab rfl (Stab.extract rfl rfl) rfl ?_)))) | (with_reducible refine Tr.nil ?_))
    refine Tr.land (N6, B, c) ⟨(hm1.trans (hm2.trans (hm3.trans (hm4.trans (hm5.trans hm6))))), hI⟩ (holds_sub (by repeat (first | exact SubFr.nil | refine SubFr.cons rfl ?_)) (by repeat (first | exact DropL.refl | apply DropL.skip)))
  obtain ⟨M7, B6, k6⟩ := y
  obtain ⟨hg7, hcut6⟩ := hy
  dsimp only at hg7 hcut6 ⊢
  replace hboth := hboth.mono RRowB.mono hg7
  replace hcut2 := hcut2.mono RI.mono hg7
  replace hcut3 := hcut3.mono RI.mono hg7
  replace ham4 := ham4.mono RRowI.mono hg7
  replace ham5 := ham5.mono RRowI.mono hg7
  first | (refine Tr.seq ?_) | (refine Tr.next ?_; refine Tr.seq ?_)
  refine Tr.cut (α := Mem) (fun y => ⟨232, [(1, .slice (some ⟨bb, 0, none⟩) 1 1), (3, .bool true), (5, .int .i64 0), (7, .bool false), (8, .slice B2 1 k2), (9, .int .i64 0), (11, .bool false), (12, .slice B3 2 k3), (13, .int .i64 0), (14, .slice B4 2 k4), (15, .bool true), (17, .int .i64 0), (18, .slice B5 2 k5), (19, .bool true), (21, .int .i64 0), (23, .bool false), (24, .slice B6 1 k6), (25, .int .i64 0), (26, .int .i64 3), (27, .int .i64 0)], [], y, F⟩) (fun y => Mem.le M7 y) ?_ (fun y hy => ?_)
  · skip
    repeat (first | ((with_reducible refine Tr.step rfl ?_); (((with_reducible refine Knd.buildSlice ?_); ((refine Exec.buildSlice (tysOk.get rfl) rfl (tysOk.get rfl) rfl rfl rfl rfl rfl (by repeat (first | exact BuildP.nil | ((apply BuildP.one); (rfl); (rfl); (first | rfl | assumption); (repeat (first | exact SetL.z | apply SetL.s))))) rfl (fun b => ?_)))))) | (with_reducible refine Tr.region ?_))
    refine Tr.publish (r := box _ 3 _) (by repeat (first | exact Del.here | apply Del.there)) (fun N1 hm1 hok => ?_)
    have hn := ofI (l := [5]) hok (by decide)
    clear hok
    refine Tr.publish (r := box _ 3 _) (by repeat (first | exact Del.here | apply Del.there)) (fun N2 hm2 hok => ?_)
    have hs := ofI (l := [3]) hok (by decide)
    clear hok
    refine Tr.publish (r := box _ 4 _) (by repeat (first | exact Del.here | apply Del.there)) (fun N3 hm3 hok => ?_)
    have hb := ofB (l := [true]) hok (by decide)
    clear hok
    refine Tr.publish (r := box _ 43 _) (by repeat (first | exact Del.here | apply Del.there)) (fun N4 hm4 hok => ?_)
    have hf := ofF1 (x := [true]) hok (hb.mono RBo.mono hm4)
    clear hok
    ((refine Tr.step rfl ?_))
    refine Exec.call0 rfl (most2_fn N4 _ _ _ _ _ _ ([[true]] : List (List Bool)) ([3] : List Int) ([5] : List Int)  hf (hs.mono RI.mono (hm3.trans hm4)) (hn.mono RI.mono (hm2.trans (hm3.trans hm4)))  (r64 _ (by decide)) (r64 _ (by decide))) rfl ?_
    rintro _ _ - ⟨hR, rfl⟩
    rcases hR with ⟨h, -⟩ | ⟨-, L7, rfl, hL7⟩
    · cases h
    have e7 := hL7.unique x7_lack
    subst e7
    rw [show ([5] : List Int).sum - 2 = 3 from rfl]
    repeat (first | ((with_reducible refine Tr.step rfl ?_); (first | ((with_reducible refine Knd.move ?_); (refine Exec.stab rfl (Stab.move rfl) rfl ?_)) | ((with_reducible refine Knd.assign ?_); (refine Exec.stab rfl (Stab.assign rfl) rfl ?_)) | ((with_reducible refine Knd.extract ?_); (refine Exec.stab rfl (Stab.extract rfl rfl) rfl ?_)))) | (with_reducible refine Tr.nil ?_))
    refine Tr.land N4 (hm1.trans (hm2.trans (hm3.trans hm4))) (holds_sub (by repeat (first | exact SubFr.nil | refine SubFr.cons rfl ?_)) (by repeat (first | exact DropL.refl | apply DropL.skip)))
  generalize y = M8 at *
  have hg8 := hy
  replace hboth := hboth.mono RRowB.mono hg8
  replace hcut2 := hcut2.mono RI.mono hg8
  replace hcut3 := hcut3.mono RI.mono hg8
  replace ham4 := ham4.mono RRowI.mono hg8
  replace ham5 := ham5.mono RRowI.mono hg8
  replace hcut6 := hcut6.mono RI.mono hg8
  first | (refine Tr.seq ?_) | (refine Tr.next ?_; refine Tr.seq ?_)
  refine Tr.cut (α := Mem) (fun y => ⟨232, [(1, .slice (some ⟨bb, 0, none⟩) 1 1), (3, .bool true), (5, .int .i64 0), (7, .bool false), (8, .slice B2 1 k2), (9, .int .i64 0), (11, .bool false), (12, .slice B3 2 k3), (13, .int .i64 0), (14, .slice B4 2 k4), (15, .bool true), (17, .int .i64 0), (18, .slice B5 2 k5), (19, .bool true), (21, .int .i64 0), (23, .bool false), (24, .slice B6 1 k6), (25, .int .i64 0), (26, .int .i64 3), (27, .int .i64 0), (28, .bool true), (29, .int .i64 0)], [], y, F⟩) (fun y => Mem.le M8 y) ?_ (fun y hy => ?_)
  · skip
    repeat (first | ((with_reducible refine Tr.step rfl ?_); (first | ((with_reducible refine Knd.move ?_); (refine Exec.stab rfl (Stab.move rfl) rfl ?_)) | ((with_reducible refine Knd.buildSlice ?_); ((refine Exec.buildSlice (tysOk.get rfl) rfl (tysOk.get rfl) rfl rfl rfl rfl rfl (by repeat (first | exact BuildP.nil | ((apply BuildP.one); (rfl); (rfl); (first | rfl | assumption); (repeat (first | exact SetL.z | apply SetL.s))))) rfl (fun b => ?_)))))) | (with_reducible refine Tr.region ?_))
    refine Tr.publish (r := box _ 3 _) (by repeat (first | exact Del.here | apply Del.there)) (fun N1 hm1 hok => ?_)
    have hr := ofI (l := [2, 1]) hok (by decide)
    clear hok
    refine Tr.publish (r := box _ 3 _) (by repeat (first | exact Del.here | apply Del.there)) (fun N2 hm2 hok => ?_)
    have hn := ofI (l := [2, 1]) hok (by decide)
    clear hok
    refine Tr.publish (r := box _ 3 _) (by repeat (first | exact Del.here | apply Del.there)) (fun N3 hm3 hok => ?_)
    have hs := ofI (l := [3]) hok (by decide)
    clear hok
    refine Tr.publish (r := box _ 23 _) (by repeat (first | exact Del.here | apply Del.there)) (fun N4 hm4 hok => ?_)
    have ha := ofA1 (x := [2, 1]) hok (hr.mono RI.mono (hm2.trans (hm3.trans hm4)))
    clear hok
    ((refine Tr.step rfl ?_))
    refine Exec.call0 rfl (check_fn N4 _ _ _ _ _ _ _ _ ([[true, true]] : List (List Bool)) ([3] : List Int) ([2, 1] : List Int) ([[2, 1]] : List (List Int)) (hboth.mono RRowB.mono (hm1.trans (hm2.trans (hm3.trans hm4)))) (hs.mono RI.mono hm4) (hn.mono RI.mono (hm3.trans hm4)) ha (r64 _ (by decide)) (r64 _ (by decide))) rfl ?_
    rintro _ _ - ⟨hR, rfl⟩
    obtain rfl := hR.yes rfl x8_check
    clear hR
    repeat (first | ((with_reducible refine Tr.step rfl ?_); (first | ((with_reducible refine Knd.move ?_); (refine Exec.stab rfl (Stab.move rfl) rfl ?_)) | ((with_reducible refine Knd.assign ?_); (refine Exec.stab rfl (Stab.assign rfl) rfl ?_)) | ((with_reducible refine Knd.extract ?_); (refine Exec.stab rfl (Stab.extract rfl rfl) rfl ?_)))) | (with_reducible refine Tr.nil ?_))
    refine Tr.land N4 (hm1.trans (hm2.trans (hm3.trans hm4))) (holds_sub (by repeat (first | exact SubFr.nil | refine SubFr.cons rfl ?_)) (by repeat (first | exact DropL.refl | apply DropL.skip)))
  generalize y = M9 at *
  have hg9 := hy
  replace hboth := hboth.mono RRowB.mono hg9
  replace hcut2 := hcut2.mono RI.mono hg9
  replace hcut3 := hcut3.mono RI.mono hg9
  replace ham4 := ham4.mono RRowI.mono hg9
  replace ham5 := ham5.mono RRowI.mono hg9
  replace hcut6 := hcut6.mono RI.mono hg9
  first | (refine Tr.seq ?_) | (refine Tr.next ?_; refine Tr.seq ?_)
  refine Tr.cut (α := Mem) (fun y => ⟨232, [(1, .slice (some ⟨bb, 0, none⟩) 1 1), (3, .bool true), (5, .int .i64 0), (7, .bool false), (8, .slice B2 1 k2), (9, .int .i64 0), (11, .bool false), (12, .slice B3 2 k3), (13, .int .i64 0), (14, .slice B4 2 k4), (15, .bool true), (17, .int .i64 0), (18, .slice B5 2 k5), (19, .bool true), (21, .int .i64 0), (23, .bool false), (24, .slice B6 1 k6), (25, .int .i64 0), (26, .int .i64 3), (27, .int .i64 0), (28, .bool true), (29, .int .i64 0), (30, .bool true), (31, .int .i64 0)], [], y, F⟩) (fun y => Mem.le M9 y) ?_ (fun y hy => ?_)
  · skip
    repeat (first | ((with_reducible refine Tr.step rfl ?_); (first | ((with_reducible refine Knd.move ?_); (refine Exec.stab rfl (Stab.move rfl) rfl ?_)) | ((with_reducible refine Knd.buildSlice ?_); ((refine Exec.buildSlice (tysOk.get rfl) rfl (tysOk.get rfl) rfl rfl rfl rfl rfl (by repeat (first | exact BuildP.nil | ((apply BuildP.one); (rfl); (rfl); (first | rfl | assumption); (repeat (first | exact SetL.z | apply SetL.s))))) rfl (fun b => ?_)))))) | (with_reducible refine Tr.region ?_))
    refine Tr.publish (r := box _ 3 _) (by repeat (first | exact Del.here | apply Del.there)) (fun N1 hm1 hok => ?_)
    have hc := ofI (l := [0, 1]) hok (by decide)
    clear hok
    refine Tr.publish (r := box _ 3 _) (by repeat (first | exact Del.here | apply Del.there)) (fun N2 hm2 hok => ?_)
    have hn := ofI (l := [2, 2]) hok (by decide)
    clear hok
    refine Tr.publish (r := box _ 3 _) (by repeat (first | exact Del.here | apply Del.there)) (fun N3 hm3 hok => ?_)
    have hs := ofI (l := [3]) hok (by decide)
    clear hok
    ((refine Tr.step rfl ?_))
    refine Exec.call0 rfl (cut_fn N3 _ _ _ _ _ _ _ _ ([[true, true]] : List (List Bool)) ([3] : List Int) ([2, 2] : List Int) ([0, 1] : List Int) (hboth.mono RRowB.mono (hm1.trans (hm2.trans hm3))) hs (hn.mono RI.mono hm3) (hc.mono RI.mono (hm2.trans hm3)) (r64 _ (by decide)) (r64 _ (by decide))) rfl ?_
    rintro _ _ - ⟨hR, rfl⟩
    obtain rfl := hR.yes rfl x9_cut
    clear hR
    repeat (first | ((with_reducible refine Tr.step rfl ?_); (first | ((with_reducible refine Knd.move ?_); (refine Exec.stab rfl (Stab.move rfl) rfl ?_)) | ((with_reducible refine Knd.assign ?_); (refine Exec.stab rfl (Stab.assign rfl) rfl ?_)) | ((with_reducible refine Knd.extract ?_); (refine Exec.stab rfl (Stab.extract rfl rfl) rfl ?_)))) | (with_reducible refine Tr.nil ?_))
    refine Tr.land N3 (hm1.trans (hm2.trans hm3)) (holds_sub (by repeat (first | exact SubFr.nil | refine SubFr.cons rfl ?_)) (by repeat (first | exact DropL.refl | apply DropL.skip)))
  generalize y = M10 at *
  have hg10 := hy
  replace hboth := hboth.mono RRowB.mono hg10
  replace hcut2 := hcut2.mono RI.mono hg10
  replace hcut3 := hcut3.mono RI.mono hg10
  replace ham4 := ham4.mono RRowI.mono hg10
  replace ham5 := ham5.mono RRowI.mono hg10
  replace hcut6 := hcut6.mono RI.mono hg10
  first | (refine Tr.seq ?_) | (refine Tr.next ?_; refine Tr.seq ?_)
  refine Tr.cut (α := Mem) (fun y => ⟨232, [(1, .slice (some ⟨bb, 0, none⟩) 1 1), (3, .bool true), (5, .int .i64 0), (7, .bool false), (8, .slice B2 1 k2), (9, .int .i64 0), (11, .bool false), (12, .slice B3 2 k3), (13, .int .i64 0), (14, .slice B4 2 k4), (15, .bool true), (17, .int .i64 0), (18, .slice B5 2 k5), (19, .bool true), (21, .int .i64 0), (23, .bool false), (24, .slice B6 1 k6), (25, .int .i64 0), (26, .int .i64 3), (27, .int .i64 0), (28, .bool true), (29, .int .i64 0), (30, .bool true), (31, .int .i64 0), (32, .bool false), (33, .int .i64 0)], [], y, F⟩) (fun y => Mem.le M10 y) ?_ (fun y hy => ?_)
  · skip
    repeat (first | ((with_reducible refine Tr.step rfl ?_); (first | ((with_reducible refine Knd.move ?_); (refine Exec.stab rfl (Stab.move rfl) rfl ?_)) | ((with_reducible refine Knd.buildSlice ?_); ((refine Exec.buildSlice (tysOk.get rfl) rfl (tysOk.get rfl) rfl rfl rfl rfl rfl (by repeat (first | exact BuildP.nil | ((apply BuildP.one); (rfl); (rfl); (first | rfl | assumption); (repeat (first | exact SetL.z | apply SetL.s))))) rfl (fun b => ?_)))))) | (with_reducible refine Tr.region ?_))
    refine Tr.publish (r := box _ 3 _) (by repeat (first | exact Del.here | apply Del.there)) (fun N1 hm1 hok => ?_)
    have hn := ofI (l := [2, 2]) hok (by decide)
    clear hok
    refine Tr.publish (r := box _ 3 _) (by repeat (first | exact Del.here | apply Del.there)) (fun N2 hm2 hok => ?_)
    have hs := ofI (l := [3]) hok (by decide)
    clear hok
    ((refine Tr.step rfl ?_))
    refine Exec.call0 rfl (cut_fn N2 _ _ _ _ _ _ _ _ ([[true, true]] : List (List Bool)) ([3] : List Int) ([2, 2] : List Int) ([] : List Int) (hboth.mono RRowB.mono (hm1.trans hm2)) hs (hn.mono RI.mono hm2) (SlOf.nil _ _ _) (r64 _ (by decide)) (r64 _ (by decide))) rfl ?_
    rintro _ _ - ⟨hR, rfl⟩
    obtain rfl := hR.not rfl x10_cut
    clear hR
    repeat (first | ((with_reducible refine Tr.step rfl ?_); (first | ((with_reducible refine Knd.move ?_); (refine Exec.stab rfl (Stab.move rfl) rfl ?_)) | ((with_reducible refine Knd.assign ?_); (refine Exec.stab rfl (Stab.assign rfl) rfl ?_)) | ((with_reducible refine Knd.extract ?_); (refine Exec.stab rfl (Stab.extract rfl rfl) rfl ?_)))) | (with_reducible refine Tr.nil ?_))
    refine Tr.land N2 (hm1.trans hm2) (holds_sub (by repeat (first | exact SubFr.nil | refine SubFr.cons rfl ?_)) (by repeat (first | exact DropL.refl | apply DropL.skip)))
  generalize y = M11 at *
  have hg11 := hy
  replace hboth := hboth.mono RRowB.mono hg11
  replace hcut2 := hcut2.mono RI.mono hg11
  replace hcut3 := hcut3.mono RI.mono hg11
  replace ham4 := ham4.mono RRowI.mono hg11
  replace ham5 := ham5.mono RRowI.mono hg11
  replace hcut6 := hcut6.mono RI.mono hg11
  first | (refine Tr.seq ?_) | (refine Tr.next ?_; refine Tr.seq ?_)
  refine Tr.cut (α := Mem) (fun y => ⟨232, [(1, .slice (some ⟨bb, 0, none⟩) 1 1), (3, .bool true), (5, .int .i64 0), (7, .bool false), (8, .slice B2 1 k2), (9, .int .i64 0), (11, .bool false), (12, .slice B3 2 k3), (13, .int .i64 0), (14, .slice B4 2 k4), (15, .bool true), (17, .int .i64 0), (18, .slice B5 2 k5), (19, .bool true), (21, .int .i64 0), (23, .bool false), (24, .slice B6 1 k6), (25, .int .i64 0), (26, .int .i64 3), (27, .int .i64 0), (28, .bool true), (29, .int .i64 0), (30, .bool true), (31, .int .i64 0), (32, .bool false), (33, .int .i64 0), (34, .bool false), (35, .int .i64 300)], [], y, F⟩) (fun y => Mem.le M11 y) ?_ (fun y hy => ?_)
  · skip
    repeat (first | ((with_reducible refine Tr.step rfl ?_); (first | ((with_reducible refine Knd.move ?_); (refine Exec.stab rfl (Stab.move rfl) rfl ?_)) | ((with_reducible refine Knd.buildSlice ?_); ((refine Exec.buildSlice (tysOk.get rfl) rfl (tysOk.get rfl) rfl rfl rfl rfl rfl (by repeat (first | exact BuildP.nil | ((apply BuildP.one); (rfl); (rfl); (first | rfl | assumption); (repeat (first | exact SetL.z | apply SetL.s))))) rfl (fun b => ?_)))))) | (with_reducible refine Tr.region ?_))
    refine Tr.publish (r := box _ 3 _) (by repeat (first | exact Del.here | apply Del.there)) (fun N1 hm1 hok => ?_)
    have hn := ofI (l := [2, 1]) hok (by decide)
    clear hok
    refine Tr.publish (r := box _ 3 _) (by repeat (first | exact Del.here | apply Del.there)) (fun N2 hm2 hok => ?_)
    have hs := ofI (l := [(-1)]) hok (by decide)
    clear hok
    ((refine Tr.step rfl ?_))
    refine Exec.call0 rfl (check_fn N2 _ _ _ _ _ _ _ _ ([[true, true]] : List (List Bool)) ([(-1)] : List Int) ([2, 1] : List Int) ([] : List (List Int)) (hboth.mono RRowB.mono (hm1.trans hm2)) hs (hn.mono RI.mono hm2) (SlOf.nil _ _ _) (r64 _ (by decide)) (r64 _ (by decide))) rfl ?_
    rintro _ _ - ⟨hR, rfl⟩
    obtain rfl := hR.bad (by decide)
    clear hR
    repeat (first | ((with_reducible refine Tr.step rfl ?_); (first | ((with_reducible refine Knd.move ?_); (refine Exec.stab rfl (Stab.move rfl) rfl ?_)) | ((with_reducible refine Knd.assign ?_); (refine Exec.stab rfl (Stab.assign rfl) rfl ?_)) | ((with_reducible refine Knd.extract ?_); (refine Exec.stab rfl (Stab.extract rfl rfl) rfl ?_)))) | (with_reducible refine Tr.nil ?_))
    refine Tr.land N2 (hm1.trans hm2) (holds_sub (by repeat (first | exact SubFr.nil | refine SubFr.cons rfl ?_)) (by repeat (first | exact DropL.refl | apply DropL.skip)))
  generalize y = M12 at *
  have hg12 := hy
  replace hboth := hboth.mono RRowB.mono hg12
  replace hcut2 := hcut2.mono RI.mono hg12
  replace hcut3 := hcut3.mono RI.mono hg12
  replace ham4 := ham4.mono RRowI.mono hg12
  replace ham5 := ham5.mono RRowI.mono hg12
  replace hcut6 := hcut6.mono RI.mono hg12
  first | (refine Tr.seq ?_) | (refine Tr.next ?_; refine Tr.seq ?_)
  refine Tr.cut (α := Unit) (fun _ => ⟨232, [(3, .bool true), (7, .bool false), (8, .slice B2 1 k2), (11, .bool false), (12, .slice B3 2 k3), (14, .slice B4 2 k4), (15, .bool true), (18, .slice B5 2 k5), (19, .bool true), (23, .bool false), (24, .slice B6 1 k6), (26, .int .i64 3), (28, .bool true), (30, .bool true), (32, .bool false)], [], M12, F⟩) (fun _ => True) ?_ (fun _ _ => ?_)
  · repeat (first | ((with_reducible refine Tr.step rfl ?_); (first | ((with_reducible refine Knd.move ?_); (refine Exec.stab rfl (Stab.move rfl) rfl ?_)) | ((with_reducible refine Knd.binOp ?_); ((refine Exec.stab rfl (Stab.int rfl rfl rfl) rfl ?_))) | ((with_reducible refine Knd.pick ?_); ((refine Exec.stab rfl (Stab.pick_fd rfl (by first | (with_reducible assumption) | (with_reducible rfl) | (with_reducible exact (not_not_intro rfl)) | omega) rfl) rfl ?_))))) | (with_reducible refine Tr.next ?_) | (with_reducible refine Tr.seq ?_) | (with_reducible refine Tr.region ?_) | (with_reducible refine Tr.nil ?_) | ((refine Tr.guard_y' rfl rfl rfl (by first | (with_reducible assumption) | (with_reducible rfl) | (with_reducible exact (not_not_intro rfl)) | omega) ?_); (first | ((with_reducible refine Knd.move ?_); (refine Exec.stab rfl (Stab.move rfl) rfl ?_)) | ((with_reducible refine Knd.binOp ?_); ((refine Exec.stab rfl (Stab.int rfl rfl rfl) rfl ?_))))) | (with_reducible refine Tr.skip ?_) | (refine Tr.cond_f rfl (by first | (with_reducible assumption) | (with_reducible rfl) | (with_reducible exact (not_not_intro rfl)) | omega) ?_))
    refine Tr.land () trivial (holds_sub (by repeat (first | exact SubFr.nil | refine SubFr.cons rfl ?_)) (by repeat (first | exact DropL.refl | apply DropL.skip)))
  first | (refine Tr.seq ?_) | (refine Tr.next ?_; refine Tr.seq ?_)
  refine Tr.cut (α := Mem) (fun y => ⟨232, [(0, .bool true)], [], y, F⟩) (fun y => Mem.le M12 y) ?_ (fun y hy => ?_)
  · skip
    repeat (first | ((with_reducible refine Tr.step rfl ?_); (first | ((with_reducible refine Knd.move ?_); (refine Exec.stab rfl (Stab.move rfl) rfl ?_)) | ((with_reducible refine Knd.pick ?_); ((refine Exec.stab rfl (Stab.pick_t rfl (by first | (with_reducible rfl) | (with_reducible assumption) | (with_reducible exact Bool.not_true) | (with_reducible exact Bool.not_false)) rfl) rfl ?_))))) | (with_reducible refine Tr.region ?_) | ((refine Tr.guard_l rfl rfl rfl (by first | (with_reducible rfl) | (with_reducible assumption) | (with_reducible exact Bool.not_true) | (with_reducible exact Bool.not_false)) ?_); (first | ((with_reducible refine Knd.move ?_); (refine Exec.stab rfl (Stab.move rfl) rfl ?_)) | ((with_reducible refine Knd.unOp ?_); ((refine Exec.stab rfl (Stab.not rfl) rfl ?_))) | ((with_reducible refine Knd.buildSlice ?_); ((refine Exec.buildSlice (tysOk.get rfl) rfl (tysOk.get rfl) rfl rfl rfl rfl rfl (by repeat (first | exact BuildP.nil | ((apply BuildP.one); (rfl); (rfl); (first | rfl | assumption); (repeat (first | exact SetL.z | apply SetL.s))))) rfl (fun b => ?_)))))))
    refine Tr.publish (r := box _ 3 _) (by repeat (first | exact Del.here | apply Del.there)) (fun N1 hm1 hok => ?_)
    have hz := ofI (l := [0]) hok (by decide)
    clear hok
    ((refine Tr.guard_l rfl rfl rfl (by first | (with_reducible rfl) | (with_reducible assumption) | (with_reducible exact Bool.not_true) | (with_reducible exact Bool.not_false)) ?_))
    refine Exec.call0 rfl (rSameInts_fn N1 ([0] : List Int) _ _ _ _ (hcut2.mono RI.mono hm1) hz) rfl ?_
    rintro _ _ - ⟨rfl, rfl⟩
    repeat (first | ((with_reducible refine Tr.step rfl ?_); (first | ((with_reducible refine Knd.move ?_); (refine Exec.stab rfl (Stab.move rfl) rfl ?_)) | ((with_reducible refine Knd.pick ?_); ((refine Exec.stab rfl (Stab.pick_t rfl (by first | (with_reducible rfl) | (with_reducible assumption) | (with_reducible exact Bool.not_true) | (with_reducible exact Bool.not_false)) rfl) rfl ?_))))) | ((refine Tr.guard_l rfl rfl rfl (by first | (with_reducible rfl) | (with_reducible assumption) | (with_reducible exact Bool.not_true) | (with_reducible exact Bool.not_false)) ?_); (first | ((with_reducible refine Knd.move ?_); (refine Exec.stab rfl (Stab.move rfl) rfl ?_)) | ((with_reducible refine Knd.unOp ?_); ((refine Exec.stab rfl (Stab.not rfl) rfl ?_))) | ((with_reducible refine Knd.buildSlice ?_); ((refine Exec.buildSlice (tysOk.get rfl) rfl (tysOk.get rfl) rfl rfl rfl rfl rfl (by repeat (first | exact BuildP.nil | ((apply BuildP.one); (rfl); (rfl); (first | rfl | assumption); (repeat (first | exact SetL.z | apply SetL.s))))) rfl (fun b => ?_)))))))
    refine Tr.publish (r := box _ 3 _) (by repeat (first | exact Del.here | apply Del.there)) (fun N2 hm2 hok => ?_)
    have hz := ofI (l := [0, 1]) hok (by decide)
    clear hok
    ((refine Tr.guard_l rfl rfl rfl (by first | (with_reducible rfl) | (with_reducible assumption) | (with_reducible exact Bool.not_true) | (with_reducible exact Bool.not_false)) ?_))
    refine Exec.call0 rfl (rSameInts_fn N2 ([0, 1] : List Int) _ _ _ _ (hcut3.mono RI.mono (hm1.trans hm2)) hz) rfl ?_
    rintro _ _ - ⟨rfl, rfl⟩
    repeat (first | ((with_reducible refine Tr.step rfl ?_); (first | ((with_reducible refine Knd.move ?_); (refine Exec.stab rfl (Stab.move rfl) rfl ?_)) | ((with_reducible refine Knd.pick ?_); ((refine Exec.stab rfl (Stab.pick_t rfl (by first | (with_reducible rfl) | (with_reducible assumption) | (with_reducible exact Bool.not_true) | (with_reducible exact Bool.not_false)) rfl) rfl ?_))))) | ((refine Tr.guard_l rfl rfl rfl (by first | (with_reducible rfl) | (with_reducible assumption) | (with_reducible exact Bool.not_true) | (with_reducible exact Bool.not_false)) ?_); (first | ((with_reducible refine Knd.move ?_); (refine Exec.stab rfl (Stab.move rfl) rfl ?_)) | ((with_reducible refine Knd.buildSlice ?_); ((refine Exec.buildSlice (tysOk.get rfl) rfl (tysOk.get rfl) rfl rfl rfl rfl rfl (by repeat (first | exact BuildP.nil | ((apply BuildP.one); (rfl); (rfl); (first | rfl | assumption); (repeat (first | exact SetL.z | apply SetL.s))))) rfl (fun b => ?_)))))))
    refine Tr.publish (r := box _ 3 _) (by repeat (first | exact Del.here | apply Del.there)) (fun N3 hm3 hok => ?_)
    have hz2 := ofI (l := [1]) hok (by decide)
    clear hok
    refine Tr.publish (r := box _ 3 _) (by repeat (first | exact Del.here | apply Del.there)) (fun N4 hm4 hok => ?_)
    have hz1 := ofI (l := [2]) hok (by decide)
    clear hok
    refine Tr.publish (r := box _ 23 _) (by repeat (first | exact Del.here | apply Del.there)) (fun N5 hm5 hok => ?_)
    have hz := ofA2 (x := [2]) (y := [1]) hok (hz1.mono RI.mono hm5) (hz2.mono RI.mono (hm4.trans hm5))
    clear hok
    ((refine Tr.guard_l rfl rfl rfl (by first | (with_reducible rfl) | (with_reducible assumption) | (with_reducible exact Bool.not_true) | (with_reducible exact Bool.not_false)) ?_))
    refine Exec.call0 rfl (rSame_fn N5 ([[2], [1]] : List (List Int)) _ _ _ _ (ham4.mono RRowI.mono (hm1.trans (hm2.trans (hm3.trans (hm4.trans hm5))))) hz) rfl ?_
    rintro _ _ - ⟨rfl, rfl⟩
    repeat (first | ((with_reducible refine Tr.step rfl ?_); (first | ((with_reducible refine Knd.move ?_); (refine Exec.stab rfl (Stab.move rfl) rfl ?_)) | ((with_reducible refine Knd.pick ?_); ((refine Exec.stab rfl (Stab.pick_t rfl (by first | (with_reducible rfl) | (with_reducible assumption) | (with_reducible exact Bool.not_true) | (with_reducible exact Bool.not_false)) rfl) rfl ?_))))) | ((refine Tr.guard_l rfl rfl rfl (by first | (with_reducible rfl) | (with_reducible assumption) | (with_reducible exact Bool.not_true) | (with_reducible exact Bool.not_false)) ?_); (first | ((with_reducible refine Knd.move ?_); (refine Exec.stab rfl (Stab.move rfl) rfl ?_)) | ((with_reducible refine Knd.buildSlice ?_); ((refine Exec.buildSlice (tysOk.get rfl) rfl (tysOk.get rfl) rfl rfl rfl rfl rfl (by repeat (first | exact BuildP.nil | ((apply BuildP.one); (rfl); (rfl); (first | rfl | assumption); (repeat (first | exact SetL.z | apply SetL.s))))) rfl (fun b => ?_)))))))
    refine Tr.publish (r := box _ 3 _) (by repeat (first | exact Del.here | apply Del.there)) (fun N6 hm6 hok => ?_)
    have hz2 := ofI (l := [1, 0]) hok (by decide)
    clear hok
    refine Tr.publish (r := box _ 3 _) (by repeat (first | exact Del.here | apply Del.there)) (fun N7 hm7 hok => ?_)
    have hz1 := ofI (l := [1, 2]) hok (by decide)
    clear hok
    refine Tr.publish (r := box _ 23 _) (by repeat (first | exact Del.here | apply Del.there)) (fun N8 hm8 hok => ?_)
    have hz := ofA2 (x := [1, 2]) (y := [1, 0]) hok (hz1.mono RI.mono hm8) (hz2.mono RI.mono (hm7.trans hm8))
    clear hok
    ((refine Tr.guard_l rfl rfl rfl (by first | (with_reducible rfl) | (with_reducible assumption) | (with_reducible exact Bool.not_true) | (with_reducible exact Bool.not_false)) ?_))
    refine Exec.call0 rfl (rSame_fn N8 ([[1, 2], [1, 0]] : List (List Int)) _ _ _ _ (ham5.mono RRowI.mono (hm1.trans (hm2.trans (hm3.trans (hm4.trans (hm5.trans (hm6.trans (hm7.trans hm8)))))))) hz) rfl ?_
    rintro _ _ - ⟨rfl, rfl⟩
    repeat (first | ((with_reducible refine Tr.step rfl ?_); (first | ((with_reducible refine Knd.move ?_); (refine Exec.stab rfl (Stab.move rfl) rfl ?_)) | ((with_reducible refine Knd.pick ?_); ((refine Exec.stab rfl (Stab.pick_t rfl (by first | (with_reducible rfl) | (with_reducible assumption) | (with_reducible exact Bool.not_true) | (with_reducible exact Bool.not_false)) rfl) rfl ?_))))) | ((refine Tr.guard_l rfl rfl rfl (by first | (with_reducible rfl) | (with_reducible assumption) | (with_reducible exact Bool.not_true) | (with_reducible exact Bool.not_false)) ?_); (first | ((with_reducible refine Knd.move ?_); (refine Exec.stab rfl (Stab.move rfl) rfl ?_)) | ((with_reducible refine Knd.buildSlice ?_); ((refine Exec.buildSlice (tysOk.get rfl) rfl (tysOk.get rfl) rfl rfl rfl rfl rfl (by repeat (first | exact BuildP.nil | ((apply BuildP.one); (rfl); (rfl); (first | rfl | assumption); (repeat (first | exact SetL.z | apply SetL.s))))) rfl (fun b => ?_)))))))
    refine Tr.publish (r := box _ 3 _) (by repeat (first | exact Del.here | apply Del.there)) (fun N9 hm9 hok => ?_)
    have hz := ofI (l := [0]) hok (by decide)
    clear hok
    ((refine Tr.guard_l rfl rfl rfl (by first | (with_reducible rfl) | (with_reducible assumption) | (with_reducible exact Bool.not_true) | (with_reducible exact Bool.not_false)) ?_))
    refine Exec.call0 rfl (rSameInts_fn N9 ([0] : List Int) _ _ _ _ (hcut6.mono RI.mono (hm1.trans (hm2.trans (hm3.trans (hm4.trans (hm5.trans (hm6.trans (hm7.trans (hm8.trans hm9))))))))) hz) rfl ?_
    rintro _ _ - ⟨rfl, rfl⟩
    repeat (first | ((with_reducible refine Tr.step rfl ?_); (first | ((with_reducible refine Knd.move ?_); (refine Exec.stab rfl (Stab.move rfl) rfl ?_)) | ((with_reducible refine Knd.assign ?_); (refine Exec.stab rfl (Stab.assign rfl) rfl ?_)) | ((with_reducible refine Knd.pick ?_); (first | (refine Exec.stab rfl (Stab.pick_t rfl (by first | (with_reducible rfl) | (with_reducible assumption) | (with_reducible exact Bool.not_true) | (with_reducible exact Bool.not_false)) rfl) rfl ?_) | (refine Exec.stab rfl (Stab.pick_td rfl (by first | (with_reducible assumption) | (with_reducible rfl) | (with_reducible exact (not_not_intro rfl)) | omega) rfl) rfl ?_))))) | (with_reducible refine Tr.nil ?_) | ((refine Tr.guard_l rfl rfl rfl (by first | (with_reducible rfl) | (with_reducible assumption) | (with_reducible exact Bool.not_true) | (with_reducible exact Bool.not_false)) ?_); (first | ((with_reducible refine Knd.move ?_); (refine Exec.stab rfl (Stab.move rfl) rfl ?_)) | ((with_reducible refine Knd.binOp ?_); ((refine Exec.stab rfl (Stab.int rfl rfl rfl) rfl ?_))) | ((with_reducible refine Knd.unOp ?_); ((refine Exec.stab rfl (Stab.not rfl) rfl ?_))))) | ((refine Tr.guard_y rfl rfl rfl (by first | (with_reducible assumption) | (with_reducible rfl) | (with_reducible exact (not_not_intro rfl)) | omega) ?_); (((with_reducible refine Knd.move ?_); (refine Exec.stab rfl (Stab.move rfl) rfl ?_)))))
    refine Tr.land N9 (hm1.trans (hm2.trans (hm3.trans (hm4.trans (hm5.trans (hm6.trans (hm7.trans (hm8.trans hm9)))))))) (holds_sub (by repeat (first | exact SubFr.nil | refine SubFr.cons rfl ?_)) (by repeat (first | exact DropL.refl | apply DropL.skip)))
  repeat (first | (with_reducible refine Tr.next ?_) | (with_reducible refine Tr.ret ?_))
  have hfin := hg1.trans (hg2.trans (hg3.trans (hg4.trans (hg5.trans (hg6.trans (hg7.trans (hg8.trans (hg9.trans (hg10.trans (hg11.trans (hg12.trans hy)))))))))))
  (refine Tr.done (by first | exact .inl rfl | exact .inr rfl) rfl (by repeat (first | exact RVs.nil | (apply RVs.cons; (exact RV.tmp rfl)))) (by first | exact Mem.le.refl _ | assumption) (by exact ⟨[], rfl⟩) ⟨rfl, ?_⟩)
  rfl
end Go.Proofs.Ytmioocddmlfboaa
