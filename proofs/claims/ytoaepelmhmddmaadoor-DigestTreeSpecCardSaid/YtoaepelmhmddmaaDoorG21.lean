/-
  The digest: the contract of the law of trees (Tree, Path and Climb match the reference).
  Conditions: none.
-/
import Derived.Test.YtoaepelmhmddmaaDoorG17
namespace Go.Proofs.YtoaepelmhmddmaaDoor
open Go Bf
attribute [local irreducible] Tr Exec Stab HasTy Go.Addr.add IntKind.wrap
attribute [local irreducible] hlf tagF sumF
/-- the path of any index -/
def pathX (l : List (List UInt8)) (i : Int) : List (List UInt8) := if 0 ≤ i ∧ i < l.length then pathF l i.toNat else []
def pathE (l : List (List UInt8)) (i : Int) : Int := if 0 ≤ i ∧ i < l.length then 0 else 1
theorem pathX_all (l : List (List UInt8)) (i : Int) : ∀ x ∈ pathX l i, x.length = 32 := by
  unfold pathX
  split
  · exact pathF_all _ l rfl _
  · simp
theorem pathX_len (l : List (List UInt8)) (i : Int) : (pathX l i).length ≤ l.length := by
  unfold pathX
  split
  · exact pathF_len _ _
  · simp
theorem pathE_range (l : List (List UInt8)) (i : Int) : pathE l i = 0 ∨ pathE l i = 1 := by
  unfold pathE
  split
  · exact .inl rfl
  · exact .inr rfl
theorem pathX_fn (l : List (List UInt8)) (i : Int) (M : Mem) (hK : At M ⟨0, 0, none⟩ (wV Kw)) (A : Option Addr) (c : Nat) (hl : RDs M (.slice A l.length c) l) (hlen : l.length ≤ 1000) :
    Fn0 Tryd.prog 19 [.slice A l.length c, .int .i64 i] M (fun r M' => ∃ B k, r = .tuple #[.slice B (pathX l i).length k, .int .i64 (pathE l i)] ∧ RDs M' (.slice B (pathX l i).length k) (pathX l i)) := by
  by_cases h : 0 ≤ i ∧ i < l.length
  · obtain ⟨a, rfl⟩ : ∃ a : Nat, i = (a : Int) := ⟨i.toNat, by omega⟩
    have e1 : pathX l (a : Int) = pathF l a := by rw [pathX, if_pos h]; rfl
    have e2 : pathE l (a : Int) = 0 := by rw [pathE, if_pos h]
    rw [e1, e2]
    refine Fn.pub (path_fn l a M hK A c hl (by omega) hlen) ?_ ?_
    · rintro v M' M'' x hm ⟨B, k, rfl, hk, he⟩ ho
      cases he
      exact ⟨B, k, rfl, RDs.ofOwn ho hk (pathF_all _ l rfl a)⟩
    · rintro v M' A' ⟨B, k, rfl, hk, rfl⟩
      exact ⟨_, rfl⟩
  · have e1 : pathX l i = [] := by rw [pathX, if_neg h]
    have e2 : pathE l i = 1 := by rw [pathE, if_neg h]
    rw [e1, e2]
    refine Fn0.mono (path_err M A l.length c i hl.len_le (by omega)) ?_
    rintro v M' hm ⟨rfl, rfl⟩
    exact ⟨none, 0, rfl, SlOf.nil _ _ _⟩
theorem rPathX_fn (l : List (List UInt8)) (i : Int) (M : Mem) (A : Option Addr) (c : Nat) (hl : RDs M (.slice A l.length c) l) (hlen : l.length ≤ 1000) :
    Fn0 Tryd.prog 20 [.slice A l.length c, .int .i64 i] M (fun r M' => ∃ B k, r = .tuple #[.slice B (pathX l i).length k, .int .i64 (pathE l i)] ∧ RDs M' (.slice B (pathX l i).length k) (pathX l i)) := by
  by_cases h : 0 ≤ i ∧ i < l.length
  · obtain ⟨a, rfl⟩ : ∃ a : Nat, i = (a : Int) := ⟨i.toNat, by omega⟩
    have e1 : pathX l (a : Int) = pathF l a := by rw [pathX, if_pos h]; rfl
    have e2 : pathE l (a : Int) = 0 := by rw [pathE, if_pos h]
    rw [e1, e2]
    refine Fn.pub (rPath_fn l a M A c hl (by omega) hlen) ?_ ?_
    · rintro v M' M'' x hm ⟨B, k, rfl, hk, he⟩ ho
      cases he
      exact ⟨B, k, rfl, RDs.ofOwn ho hk (pathF_all _ l rfl a)⟩
    · rintro v M' A' ⟨B, k, rfl, hk, rfl⟩
      exact ⟨_, rfl⟩
  · have e1 : pathX l i = [] := by rw [pathX, if_neg h]
    have e2 : pathE l i = 1 := by rw [pathE, if_neg h]
    rw [e1, e2]
    refine Fn0.mono (rPath_err M A l.length c i hl.len_le (by omega)) ?_
    rintro v M' hm ⟨rfl, rfl⟩
    exact ⟨none, 0, rfl, SlOf.nil _ _ _⟩
/-- a path as an element -/
def RP (M : Mem) (c : List Value) (x : List (List UInt8)) : Prop := ∃ A k, c = [.slice A x.length k] ∧ RDs M (.slice A x.length k) x
theorem RP.mono (M M' : Mem) (c : List Value) (x : List (List UInt8)) (hm : Mem.le M M') (h : RP M c x) : RP M' c x := let ⟨A, k, h1, h2⟩ := h; ⟨A, k, h1, h2.mono RD.mono hm⟩
theorem three_paths {M : Mem} {b t : Nat} {A0 A1 A2 : Option Addr} {c0 c1 c2 n0 n1 n2 : Nat} {x0 x1 x2 : List (List UInt8)} (h : (box b t [.slice A0 n0 c0, .slice A1 n1 c1, .slice A2 n2 c2]).ok M) (h0 : RDs M (.slice A0 n0 c0) x0) (h1 : RDs M (.slice A1 n1 c1) x1) (h2 : RDs M (.slice A2 n2 c2) x2) :
    SlOf 1 RP M (.slice (some ⟨b, 0, none⟩) 3 3) [x0, x1, x2] := by
  have e0 : n0 = x0.length := by obtain ⟨_, _, _, e, _⟩ := h0; cases e; rfl
  have e1 : n1 = x1.length := by obtain ⟨_, _, _, e, _⟩ := h1; cases e; rfl
  have e2 : n2 = x2.length := by obtain ⟨_, _, _, e, _⟩ := h2; cases e; rfl
  subst e0 e1 e2
  refine SlOf.ofBox (xs := [x0, x1, x2]) h (by simp; exact ⟨rfl, rfl, rfl⟩) (by simp) ⟨rfl, fun i x hx => ?_⟩
  match i, hx with
  | 0, hx => cases hx; exact ⟨A0, c0, rfl, h0⟩
  | 1, hx => cases hx; exact ⟨A1, c1, rfl, h1⟩
  | 2, hx => cases hx; exact ⟨A2, c2, rfl, h2⟩
theorem box_at {b i : Nat} : ((some (⟨b, 0, none⟩ : Addr)).getD default).add (i * 1) = ⟨b, (i : Int).toNat, none⟩ := by
  show Addr.add ⟨b, 0, none⟩ (i * 1) = _
  rw [Nat.mul_one]; simp [Addr.add]; exact fun h => h.symm
set_option maxHeartbeats 8000000 in
set_option maxRecDepth 20000 in
theorem f4_fn (M : Mem) (hK : At M ⟨0, 0, none⟩ (wV Kw)) (A : Option Addr) (c : Nat) (bs : List UInt8) (at_ n : Int) (h1 : -9223372036854775808 ≤ at_ ∧ at_ ≤ 9223372036854775807) (h2 : -9223372036854775808 ≤ n ∧ n ≤ 9223372036854775807) (d : List UInt8) (hd : d.length = 32) (hb : BSl M (.slice A bs.length c) bs) :
    Fn0 Tryd.prog 4 [.slice A bs.length c, .int .i64 at_, .int .i64 n, .agg (byteV d).toArray] M (fun r _ => r = .bool true) := by
  have hll := hb.len_le
  have hd' : (byteV d).length = 32 := by simpa using hd
  refine Fn.intro Tryd.func4 rfl rfl Tryd.ntmps4 rfl fun E F => ?_
  repeat (first | ((with_reducible refine Tr.step rfl ?_); (first | ((with_reducible refine Knd.assign ?_); (refine Exec.stab rfl (Stab.assign rfl) rfl ?_)) | ((with_reducible refine Knd.box ?_); (first | (refine Exec.box rfl rfl (fun b => ?_)) | (refine Exec.box1 rfl (by first | rfl | assumption) rfl (fun b => ?_)))))) | (with_reducible refine Tr.next ?_) | (with_reducible refine Tr.seq ?_) | (with_reducible refine Tr.region ?_) | (with_reducible refine Tr.nil ?_))
  generalize hb0 : b = b0
  ((refine Tr.step rfl ?_)); refine Exec.call0 rfl (sane_fn M hK) rfl ?_
  rintro _ M1 hm1 rfl
  repeat (first | ((with_reducible refine Tr.step rfl ?_); (first | ((with_reducible refine Knd.move ?_); (refine Exec.stab rfl (Stab.move rfl) rfl ?_)) | ((with_reducible refine Knd.unOp ?_); ((refine Exec.stab rfl (Stab.not rfl) rfl ?_))))) | (with_reducible refine Tr.next ?_) | (with_reducible refine Tr.seq ?_) | (with_reducible refine Tr.region ?_) | (with_reducible refine Tr.nil ?_) | (with_reducible refine Tr.skip ?_) | (refine Tr.cond_bf rfl (by first | (with_reducible rfl) | (with_reducible assumption) | (with_reducible exact Bool.not_true) | (with_reducible exact Bool.not_false)) ?_))
  ((refine Tr.step rfl ?_)); refine Exec.call0 rfl (digestsOf_fn M1 A c bs (hb.mono hm1)) rfl ?_
  rintro _ M2 hm2 ⟨B, k, rfl, hl⟩
  have hm02 := hm1.trans hm2
  have hlen : (digs bs (min bs.length 24)).length = min bs.length 24 := digs_length _ _
  have h24 : min bs.length 24 ≤ 24 := by omega
  generalize digs bs (min bs.length 24) = l at hl hlen
  generalize min bs.length 24 = N at hl hlen h24
  subst hlen
  have ft := tree_fn l M2 (hK.mono hm02) B k hl (by omega)
  have fr := fun M hm => rtree_fn l M B k (hl.mono RD.mono hm) (by omega)
  have lT := treeF_length l
  generalize treeF l = T at ft fr lT
  have lT' : (byteV T).length = 32 := by simpa using lT
  have hT : decide (¬ T = T) = false := decide_eq_false (not_not_intro rfl)
  repeat (first | ((with_reducible refine Tr.step rfl ?_); (first | ((with_reducible refine Knd.move ?_); (refine Exec.stab rfl (Stab.move rfl) rfl ?_)) | ((with_reducible refine Knd.assign ?_); (refine Exec.stab rfl (Stab.assign rfl) rfl ?_)))) | (with_reducible refine Tr.next ?_) | (with_reducible refine Tr.seq ?_) | (with_reducible refine Tr.region ?_) | (with_reducible refine Tr.nil ?_))
  ((refine Tr.step rfl ?_)); refine Exec.call0 rfl (ft) rfl ?_
  rintro _ M3 hm3 rfl
  repeat (((with_reducible refine Tr.step rfl ?_); (((with_reducible refine Knd.move ?_); (refine Exec.stab rfl (Stab.move rfl) rfl ?_)))))
  ((refine Tr.step rfl ?_)); refine Exec.call0 rfl (fr M3 hm3) rfl ?_
  rintro _ M4 hm4 rfl
  have hm24 := hm3.trans hm4
  have hm04 := hm02.trans hm24
  replace hl := hl.mono RD.mono hm24
  clear ft fr
  have hbr := bits_range .and at_ 15
  generalize hv : Go.bits .and .i64 at_ 15 = v at hbr
  repeat (first | ((with_reducible refine Tr.step rfl ?_); (first | ((with_reducible refine Knd.move ?_); (refine Exec.stab rfl (Stab.move rfl) rfl ?_)) | ((with_reducible refine Knd.len ?_); ((refine Exec.stab rfl (Stab.len rfl (tysOk.get rfl) rfl) rfl ?_))) | ((with_reducible refine Knd.binOp ?_); (first | (refine Exec.stab rfl (Stab.arrne rfl rfl (tysOk.get rfl) rfl (tysOk.get rfl) rfl rfl (by kernel_rfl) (by assumption) (by assumption)) rfl ?_) | (refine Exec.stab rfl (Stab.int rfl rfl rfl) rfl ?_))) | ((with_reducible refine Knd.buildSlice ?_); ((refine Exec.buildSlice (tysOk.get rfl) rfl (tysOk.get rfl) rfl rfl rfl rfl rfl (by repeat (first | exact BuildP.nil | ((apply BuildP.one); (rfl); (rfl); (first | rfl | assumption); (repeat (first | exact SetL.z | apply SetL.s))))) rfl (fun b => ?_)))))) | (with_reducible refine Tr.next ?_) | (with_reducible refine Tr.seq ?_) | (with_reducible refine Tr.region ?_) | (with_reducible refine Tr.nil ?_) | (with_reducible refine Tr.skip ?_) | (with_reducible refine Tr.block ?_) | (refine Tr.cond_bf rfl (by first | (with_reducible rfl) | (with_reducible assumption) | (with_reducible exact Bool.not_true) | (with_reducible exact Bool.not_false)) ?_))
  rw [hT]
  repeat (fail)
  rw [hv]
  refine Tr.cells (cs' := intV [at_, v]) (by repeat (first | exact Upd.here | apply Upd.there)) rfl ?_
  refine Tr.publish (r := box _ 3 _) (by repeat (first | exact Del.here | apply Del.there)) (fun M5 hm5 hok5 => ?_)
  generalize hb1 : b = b1 at hok5
  have hx := ints_ofBox _ hok5 (by simp)
  have hxr : ∀ x ∈ [at_, v], -9223372036854775808 ≤ x ∧ x ≤ 9223372036854775807 := by
    intro x hx
    simp at hx
    rcases hx with rfl | rfl <;> omega
  generalize hxs : [at_, v] = xs at hx hxr
  have hx2 : xs.length = 2 := by rw [← hxs]; rfl
  rw [hx2] at hx
  clear hxs hok5
  replace hl := hl.mono RD.mono hm5
  have hm05 := hm04.trans hm5
  refine Tr.loop (α := Nat × Mem) (fun y => ⟨117, [(38, .int .i64 y.1), (37, .int .i64 (2 : Nat)), (36, .slice (some ⟨b1, 0, none⟩) 2 2), (9, .slice B l.length k), (8, .bool false), (7, .pointer (some ⟨b0, 0, none⟩)), (2, .int .i64 n)], [], y.2, box b0 26 (byteV d) :: ([] ++ F)⟩)
    (fun y => y.1 ≤ 2 ∧ Mem.le M5 y.2) (fun y => 2 - y.1) (0, M5) ⟨by simp, Mem.le.refl _⟩ (holds_sub (by repeat (first | exact SubFr.nil | refine SubFr.cons rfl ?_)) (by repeat (first | exact DropL.refl | apply DropL.skip))) (fun y hy => ?_)
  obtain ⟨i, M6⟩ := y
  obtain ⟨hi, hm6⟩ := hy
  simp only at hi hm6
  dsimp only
  have hm06 := hm05.trans hm6
  by_cases hlt : i < 2
  rotate_left
  · have e : i = 2 := by omega
    subst e
    repeat (first | ((with_reducible refine Tr.step rfl ?_); (first | ((with_reducible refine Knd.assign ?_); (refine Exec.stab rfl (Stab.assign rfl) rfl ?_)) | ((with_reducible refine Knd.binOp ?_); ((refine Exec.stab rfl (Stab.int rfl rfl rfl) rfl ?_))))) | (with_reducible refine Tr.next ?_) | (with_reducible refine Tr.seq ?_) | (with_reducible refine Tr.region ?_) | (with_reducible refine Tr.nil ?_) | (with_reducible refine Tr.exit ?_) | (with_reducible refine Tr.ret ?_) | (with_reducible refine Tr.then_exit ?_) | ((with_reducible refine Tr.in_exit ?_ ?_); (exact rfl)) | (refine Tr.cond_f rfl (by first | (with_reducible assumption) | (with_reducible rfl) | (with_reducible exact (not_not_intro rfl)) | omega) ?_))
    (refine Tr.done (by first | exact .inl rfl | exact .inr rfl) rfl (by repeat (first | exact RVs.nil | (apply RVs.cons; (exact RV.tmp rfl)))) (by first | exact Mem.le.refl _ | assumption) (by exact ⟨[_], rfl⟩) ⟨rfl, ?_⟩)
    rfl
  obtain ⟨x, hxi⟩ := get_of_lt (xs := xs) (i := i) (by omega)
  have hxr' := hxr x (List.mem_of_getElem? hxi)
  obtain ⟨hA, ch, hat, rfl⟩ := (hx.mono RI.mono hm6).elem hxi
  rw [box_at] at hat
  have hl6 := hl.mono RD.mono hm6
  have f1 := pathX_fn l x M6 (hK.mono hm06) B k hl6 (by omega)
  have f2 := fun M hm => rPathX_fn l x M B k (hl6.mono RD.mono hm) (by omega)
  have hQa := pathX_all l x
  have hQl := pathX_len l x
  have hEr := pathE_range l x
  generalize pathX l x = Q at f1 f2 hQa hQl
  generalize pathE l x = e at f1 f2 hEr
  have he : decide (e ≠ e) = false := decide_eq_false (not_not_intro rfl)
  repeat (first | ((with_reducible refine Tr.step rfl ?_); (first | ((with_reducible refine Knd.move ?_); (refine Exec.stab rfl (Stab.move rfl) rfl ?_)) | ((with_reducible refine Knd.assign ?_); (refine Exec.stab rfl (Stab.assign rfl) rfl ?_)) | ((with_reducible refine Knd.load ?_); ((refine Exec.stab rfl (Stab.loadM rfl (tysOk.get rfl) rfl (by assumption)) rfl ?_))) | ((with_reducible refine Knd.binOp ?_); ((refine Exec.stab rfl (Stab.int rfl rfl rfl) rfl ?_))) | ((with_reducible refine Knd.indexAddr ?_); ((refine Exec.stab rfl (Stab.indexB0 rfl rfl (tysOk.get rfl) rfl (tysOk.get rfl) rfl (by omega) (by omega)) rfl ?_))))) | (with_reducible refine Tr.next ?_) | (with_reducible refine Tr.seq ?_) | (with_reducible refine Tr.region ?_) | (with_reducible refine Tr.nil ?_) | (with_reducible refine Tr.skip ?_) | (with_reducible refine Tr.block ?_) | (refine Tr.cond_t rfl (by first | (with_reducible assumption) | (with_reducible rfl) | (with_reducible exact (not_not_intro rfl)) | omega) ?_))
  ((refine Tr.step rfl ?_)); refine Exec.call0 rfl (f1) rfl ?_
  rintro _ M7 hm7 ⟨B1, k1, rfl, hp⟩
  repeat (first | ((with_reducible refine Tr.step rfl ?_); (first | ((with_reducible refine Knd.move ?_); (refine Exec.stab rfl (Stab.move rfl) rfl ?_)) | ((with_reducible refine Knd.assign ?_); (refine Exec.stab rfl (Stab.assign rfl) rfl ?_)) | ((with_reducible refine Knd.extract ?_); (refine Exec.stab rfl (Stab.extract rfl rfl) rfl ?_)))) | (with_reducible refine Tr.next ?_) | (with_reducible refine Tr.seq ?_) | (with_reducible refine Tr.region ?_) | (with_reducible refine Tr.nil ?_))
  ((refine Tr.step rfl ?_)); refine Exec.call0 rfl (f2 M7 hm7) rfl ?_
  rintro _ M8 hm8 ⟨B2, k2, rfl, hq⟩
  have hm68 := hm7.trans hm8
  repeat (first | ((with_reducible refine Tr.step rfl ?_); (first | ((with_reducible refine Knd.move ?_); (refine Exec.stab rfl (Stab.move rfl) rfl ?_)) | ((with_reducible refine Knd.assign ?_); (refine Exec.stab rfl (Stab.assign rfl) rfl ?_)) | ((with_reducible refine Knd.extract ?_); (refine Exec.stab rfl (Stab.extract rfl rfl) rfl ?_)))) | (with_reducible refine Tr.next ?_) | (with_reducible refine Tr.seq ?_) | (with_reducible refine Tr.region ?_) | (with_reducible refine Tr.nil ?_))
  ((refine Tr.step rfl ?_)); refine Exec.call0 rfl (rSame_fn M8 Q B1 B2 k1 k2 (hp.mono RD.mono hm8) hq) rfl ?_
  rintro _ _ _ ⟨rfl, rfl⟩
  obtain ⟨cells, -, hlc, hcm, -⟩ := hq.cells
  repeat (first | ((with_reducible refine Tr.step rfl ?_); (first | ((with_reducible refine Knd.move ?_); (refine Exec.stab rfl (Stab.move rfl) rfl ?_)) | ((with_reducible refine Knd.len ?_); ((refine Exec.stab rfl (Stab.len rfl (tysOk.get rfl) rfl) rfl ?_))) | ((with_reducible refine Knd.pick ?_); ((refine Exec.stab rfl (Stab.pick_f rfl (by first | (with_reducible rfl) | (with_reducible assumption) | (with_reducible exact Bool.not_true) | (with_reducible exact Bool.not_false)) rfl) rfl ?_))) | ((with_reducible refine Knd.unOp ?_); ((refine Exec.stab rfl (Stab.not rfl) rfl ?_))) | ((with_reducible refine Knd.buildSlice ?_); ((refine Exec.buildSlice (tysOk.get rfl) rfl (tysOk.get rfl) rfl rfl rfl rfl rfl (by repeat (first | exact BuildP.nil | ((apply BuildP.one); (rfl); (rfl); (first | rfl | assumption); (repeat (first | exact SetL.z | apply SetL.s))))) rfl (fun b => ?_)))))) | (with_reducible refine Tr.next ?_) | (with_reducible refine Tr.seq ?_) | (with_reducible refine Tr.region ?_) | (with_reducible refine Tr.nil ?_) | ((refine Tr.guard_l rfl rfl rfl (by first | (with_reducible rfl) | (with_reducible assumption) | (with_reducible exact Bool.not_true) | (with_reducible exact Bool.not_false)) ?_); (first | ((with_reducible refine Knd.move ?_); (refine Exec.stab rfl (Stab.move rfl) rfl ?_)) | ((with_reducible refine Knd.binOp ?_); ((refine Exec.stab rfl (Stab.int rfl rfl rfl) rfl ?_))))) | (with_reducible refine Tr.skip ?_) | (with_reducible refine Tr.block ?_) | (refine Tr.cond_bf rfl (by first | (with_reducible rfl) | (with_reducible assumption) | (with_reducible exact Bool.not_true) | (with_reducible exact Bool.not_false)) ?_))
  refine Tr.cells (cs' := intV [n, (l.length : Int)]) (by repeat (first | exact Upd.here | apply Upd.there)) rfl ?_
  refine Tr.publish (r := box _ 3 _) (by repeat (first | exact Del.here | apply Del.there)) (fun M9 hm9 hok9 => ?_)
  generalize hb2 : b = b2 at hok9
  have hy := ints_ofBox _ hok9 (by simp)
  have hyr : ∀ x ∈ [n, (l.length : Int)], -9223372036854775808 ≤ x ∧ x ≤ 9223372036854775807 := by
    intro x hx
    simp at hx
    rcases hx with rfl | rfl <;> omega
  generalize hys : [n, (l.length : Int)] = ys at hy hyr
  have hy2 : ys.length = 2 := by rw [← hys]; rfl
  rw [hy2] at hy
  clear hys hok9
  have hm69 := hm68.trans hm9
  replace hq := hq.mono RD.mono hm9
  have hm09 := hm06.trans hm69
  refine Tr.loop (α := Nat × Mem) (fun y => ⟨117, [(68, .int .i64 y.1), (67, .int .i64 (2 : Nat)), (66, .slice (some ⟨b2, 0, none⟩) 2 2), (14, .slice B2 Q.length k2), (11, .int .i64 x), (38, .int .i64 i), (37, .int .i64 (2 : Nat)), (36, .slice (some ⟨b1, 0, none⟩) 2 2), (9, .slice B l.length k), (8, .bool false), (7, .pointer (some ⟨b0, 0, none⟩)), (2, .int .i64 n)], [], y.2, box b0 26 (byteV d) :: ([] ++ F)⟩)
    (fun y => y.1 ≤ 2 ∧ Mem.le M9 y.2) (fun y => 2 - y.1) (0, M9) ⟨by simp, Mem.le.refl _⟩ (holds_sub (by repeat (first | exact SubFr.nil | refine SubFr.cons rfl ?_)) (by repeat (first | exact DropL.refl | apply DropL.skip))) (fun y hy' => ?_)
  obtain ⟨j, M10⟩ := y
  obtain ⟨hj, hm10⟩ := hy'
  simp only at hj hm10
  dsimp only
  have hm010 := hm09.trans hm10
  by_cases hjlt : j < 2
  rotate_left
  · have e : j = 2 := by omega
    subst e
    repeat (first | ((with_reducible refine Tr.step rfl ?_); (first | ((with_reducible refine Knd.move ?_); (refine Exec.stab rfl (Stab.move rfl) rfl ?_)) | ((with_reducible refine Knd.binOp ?_); (first | (refine Exec.stab rfl (Stab.addi rfl rfl (by omega)) rfl ?_) | (refine Exec.stab rfl (Stab.int rfl rfl rfl) rfl ?_))))) | (with_reducible refine Tr.next ?_) | (with_reducible refine Tr.seq ?_) | (with_reducible refine Tr.region ?_) | (with_reducible refine Tr.nil ?_) | (with_reducible refine Tr.exit ?_) | (with_reducible refine Tr.then_exit ?_) | (with_reducible refine Tr.in_normal ?_) | ((with_reducible refine Tr.in_exit ?_ ?_); (exact rfl)) | (refine Tr.cond_f rfl (by first | (with_reducible assumption) | (with_reducible rfl) | (with_reducible exact (not_not_intro rfl)) | omega) ?_))
    refine Tr.again (i + 1, M10) ⟨by simp only; omega, hm6.trans (hm69.trans hm10)⟩ (by simp only; omega) (holds_sub (by repeat (first | exact SubFr.nil | refine SubFr.cons rfl ?_)) (by repeat (first | exact DropL.refl | apply DropL.skip)))
  obtain ⟨m, hmj⟩ := get_of_lt (xs := ys) (i := j) (by omega)
  have hmr := hyr m (List.mem_of_getElem? hmj)
  obtain ⟨hA2, ch2, hat2, rfl⟩ := (hy.mono RI.mono hm10).elem hmj
  rw [box_at] at hat2
  have hq10 := hq.mono RD.mono hm10
  obtain ⟨hrow, hrl⟩ := RDs.row hq10
  have hh : ((Q.length : Int) / 2).toNat = Q.length / 2 := by omega
  have hqh := hq10.pre (k := Q.length / 2) (m := k2) (by omega) (by omega) (Nat.le_refl _)
  repeat (first | ((with_reducible refine Tr.step rfl ?_); (first | ((with_reducible refine Knd.assign ?_); (refine Exec.stab rfl (Stab.assign rfl) rfl ?_)) | ((with_reducible refine Knd.load ?_); ((refine Exec.stab rfl (Stab.loadM rfl (tysOk.get rfl) rfl (by assumption)) rfl ?_))) | ((with_reducible refine Knd.binOp ?_); ((refine Exec.stab rfl (Stab.int rfl rfl rfl) rfl ?_))) | ((with_reducible refine Knd.indexAddr ?_); ((refine Exec.stab rfl (Stab.indexB0 rfl rfl (tysOk.get rfl) rfl (tysOk.get rfl) rfl (by omega) (by omega)) rfl ?_))))) | (with_reducible refine Tr.next ?_) | (with_reducible refine Tr.seq ?_) | (with_reducible refine Tr.region ?_) | (with_reducible refine Tr.nil ?_) | (with_reducible refine Tr.skip ?_) | (with_reducible refine Tr.block ?_) | (refine Tr.cond_t rfl (by first | (with_reducible assumption) | (with_reducible rfl) | (with_reducible exact (not_not_intro rfl)) | omega) ?_))
  (((apply Tr.draw); (kernel_rfl)); (refine TrA.take 0 (by kernel_rfl) rfl (by kernel_rfl) (by first | exact fun _ _ _ h => h | exact fun _ _ _ h => nomatch h.1) (by first | exact fun _ h => h | (intro r h; cases h; done) | exact (Sub.mem (by repeat (first | exact Sub.refl | apply Sub.cons)))) rfl (by first | exact Stab.move rfl) rfl rfl ?_); (refine TrA.take 2 (by kernel_rfl) rfl (by kernel_rfl) (by first | exact fun _ _ _ h => h | exact fun _ _ _ h => nomatch h.1) (by first | exact fun _ h => h | (intro r h; cases h; done) | exact (Sub.mem (by repeat (first | exact Sub.refl | apply Sub.cons)))) rfl (by first | exact Stab.move rfl) rfl rfl ?_); (refine TrA.take 4 (by kernel_rfl) rfl (by kernel_rfl) (by first | exact fun _ _ _ h => h | exact fun _ _ _ h => nomatch h.1) (by first | exact fun _ h => h | (intro r h; cases h; done) | exact (Sub.mem (by repeat (first | exact Sub.refl | apply Sub.cons)))) rfl (by exact Stab.loadW rfl (tysOk.get rfl) rfl (by repeat (first | exact Has.here | apply Has.there)) (by assumption)) rfl rfl ?_); (refine TrA.take 7 (by kernel_rfl) rfl (by kernel_rfl) (by first | exact fun _ _ _ h => h | exact fun _ _ _ h => nomatch h.1) (by first | exact fun _ h => h | (intro r h; cases h; done) | exact (Sub.mem (by repeat (first | exact Sub.refl | apply Sub.cons)))) rfl (by first | exact Stab.move rfl) rfl rfl ?_); (refine TrA.take 8 (by kernel_rfl) rfl (by kernel_rfl) (by first | exact fun _ _ _ h => h | exact fun _ _ _ h => nomatch h.1) (by first | exact fun _ h => h | (intro r h; cases h; done) | exact (Sub.mem (by repeat (first | exact Sub.refl | apply Sub.cons)))) rfl (by first | exact Stab.move rfl) rfl rfl ?_); (refine TrA.take 9 (by kernel_rfl) rfl (by kernel_rfl) (by first | exact fun _ _ _ h => h | exact fun _ _ _ h => nomatch h.1) (by first | exact fun _ h => h | (intro r h; cases h; done) | exact (Sub.mem (by repeat (first | exact Sub.refl | apply Sub.cons)))) rfl (by first | exact Stab.len rfl (tysOk.get rfl) rfl | exact Stab.lensL rfl (tysOk.get rfl) rfl | exact Stab.lens rfl (tysOk.get rfl) rfl) rfl rfl ?_); (refine TrA.take 10 (by kernel_rfl) rfl (by kernel_rfl) (by first | exact fun _ _ _ h => h | exact fun _ _ _ h => nomatch h.1) (by first | exact fun _ h => h | (intro r h; cases h; done) | exact (Sub.mem (by repeat (first | exact Sub.refl | apply Sub.cons)))) rfl (by exact Stab.quoi rfl rfl (by omega) (by omega) (by omega)) rfl rfl ?_); (refine TrA.take 11 (by kernel_rfl) rfl (by kernel_rfl) (by first | exact fun _ _ _ h => h | exact fun _ _ _ h => nomatch h.1) (by first | exact fun _ h => h | (intro r h; cases h; done) | exact (Sub.mem (by repeat (first | exact Sub.refl | apply Sub.cons)))) rfl (by exact Stab.slice_h rfl rfl (tysOk.get rfl) rfl (tysOk.get rfl) (by omega) (by omega)) rfl rfl ?_); (refine TrA.take 14 (by kernel_rfl) rfl (by kernel_rfl) (by first | exact fun _ _ _ h => h | exact fun _ _ _ h => nomatch h.1) (by first | exact fun _ h => h | (intro r h; cases h; done) | exact (Sub.mem (by repeat (first | exact Sub.refl | apply Sub.cons)))) rfl (by first | exact Stab.move rfl) rfl rfl ?_))
  rw [hh]
  ((refine TrM.start1 _ (PA.build1 5 [(76, .agg (byteV d).toArray)] rfl (by first | exact .inl rfl | exact .inr ⟨_, _, _, rfl, rfl, rfl⟩) rfl (tysOk.get rfl) rfl (tysOk.get rfl) rfl rfl rfl rfl rfl (by first | rfl | assumption) rfl) (by kernel_rfl) ?_); (refine TrM.eff 1 rfl (by kernel_rfl) (by first | exact .inl rfl | exact .inr ⟨_, _, _, rfl, rfl, rfl⟩) (by repeat (first | exact PendOk.nil | refine PendOk.cons rfl (by repeat (first | exact SubFr.nil | refine SubFr.cons rfl ?_)) ?_)) (by first | exact fun _ h => h | (intro r h; cases h; done) | exact (Sub.mem (by repeat (first | exact Sub.refl | apply Sub.cons)))) (by repeat (first | apply AppF.cons | exact AppF.nil | exact AppF.app)) (by repeat (first | apply AppF.cons | exact AppF.nil | exact AppF.app)) (fun Y X => ?_)); (((refine Knd.buildSlice ?_); ((refine Exec.buildSlice (tysOk.get rfl) rfl (tysOk.get rfl) rfl rfl rfl rfl rfl (by repeat (exact BuildP.nil)) rfl (fun b => ?_))))); (refine ⟨_, _, (by repeat (first | apply App.cons | exact App.nil | exact App.app)), (by repeat (first | apply App.cons | exact App.nil | exact App.app)), rfl, (by first | exact Mem.le.refl _ | assumption), (by first | exact fun _ h => h | (intro r h; cases h; done) | exact (Sub.mem (by repeat (first | exact Sub.refl | apply Sub.cons)))), ?_⟩))
  refine TrM.box_own 32 0 (by repeat (first | exact Upd.here | apply Upd.there)) rfl (by intro u hu; cases hu) (by simp [maxLen]) ?_
  ((refine TrM.eff 3 rfl (by kernel_rfl) (by first | exact .inl rfl | exact .inr ⟨_, _, _, rfl, rfl, rfl⟩) (by repeat (first | exact PendOk.nil | refine PendOk.cons rfl (by repeat (first | exact SubFr.nil | refine SubFr.cons rfl ?_)) ?_)) (by first | exact fun _ h => h | (intro r h; cases h; done) | exact (Sub.mem (by repeat (first | exact Sub.refl | apply Sub.cons)))) (by repeat (first | apply AppF.cons | exact AppF.nil | exact AppF.app)) (by repeat (first | apply AppF.cons | exact AppF.nil | exact AppF.app)) (fun Y X => ?_)))
  refine Exec.append (news := byteV Q.flatten) rfl rfl (tysOk.get rfl) rfl (tysOk.get rfl) rfl rfl rfl rfl (by repeat (first | exact Del.here | apply Del.there)) (Src.row hrow) hrl (byteV_one _) (by omega) (by omega) rfl (fun A8 c8 hc8 => ?_)
  (refine ⟨_, _, (by repeat (first | apply App.cons | exact App.nil | exact App.app)), (by repeat (first | apply App.cons | exact App.nil | exact App.app)), rfl, (by first | exact Mem.le.refl _ | assumption), (by first | exact fun _ h => h | (intro r h; cases h; done) | exact (Sub.mem (by repeat (first | exact Sub.refl | apply Sub.cons)))), ?_⟩)
  rw [zerosL_app, Nat.zero_add]
  ((refine TrM.land1 (by kernel_rfl) (by repeat (first | exact PendOk.nil | refine PendOk.cons rfl (by repeat (first | exact SubFr.nil | refine SubFr.cons rfl ?_)) ?_)) (by first | exact fun _ h => h | (intro r h; cases h; done) | exact (Sub.mem (by repeat (first | exact Sub.refl | apply Sub.cons)))) ?_))
  intro b3
  dsimp only
  ((refine TrA.eff 6 rfl (by kernel_rfl) (by first | exact .inl rfl | exact .inr ⟨_, _, _, rfl, rfl, rfl⟩) ?_))
  refine Exec.append (news := byteV d) rfl rfl (tysOk.get rfl) rfl (tysOk.get rfl) rfl rfl rfl rfl (by repeat (first | exact Del.here | apply Del.there)) (Src.box (by repeat (first | exact Has.here | apply Has.there))) (by simpa using hd) (byteV_one _) (by omega) (by omega) rfl (fun A9 c9 hc9 => ?_)
  refine ⟨Mem.le.refl _, (by first | exact fun _ h => h | (intro r h; cases h; done) | exact (Sub.mem (by repeat (first | exact Sub.refl | apply Sub.cons)))), ?_⟩
  rw [← byteV_append, show Q.flatten ++ d = (Q ++ [d]).flatten by simp, show Q.length + 1 = (Q ++ [d]).length by simp]
  refine TrA.publish (x := ownS 26 32 _ _ _ _) (by repeat (first | exact Del.here | apply Del.there)) (fun M11 hm11 hok11 => ?_)
  have hlo := RDs.ofOwn hok11 hc9 (fun x hx => by
    rcases List.mem_append.1 hx with h | h
    · exact hQa x h
    · simp at h; rw [h]; exact hd)
  ((refine TrA.eff 12 rfl (by kernel_rfl) (by first | exact .inl rfl | exact .inr ⟨_, _, _, rfl, rfl, rfl⟩) ?_); (((refine Knd.buildSlice ?_); ((refine Exec.buildSlice (tysOk.get rfl) rfl (tysOk.get rfl) rfl rfl rfl rfl rfl (by repeat (first | exact BuildP.nil | ((apply BuildP.one); (rfl); (rfl); (first | rfl | assumption); (repeat (first | exact SetL.z | apply SetL.s))))) rfl (fun b => ?_))))); (refine ⟨(by first | exact Mem.le.refl _ | assumption), (by first | exact fun _ h => h | (intro r h; cases h; done) | exact (Sub.mem (by repeat (first | exact Sub.refl | apply Sub.cons)))), ?_⟩); (refine TrA.take 13 (by kernel_rfl) rfl (by kernel_rfl) (by first | exact fun _ _ _ h => h | exact fun _ _ _ h => nomatch h.1) (by first | exact fun _ h => h | (intro r h; cases h; done) | exact (Sub.mem (by repeat (first | exact Sub.refl | apply Sub.cons)))) rfl (by first | exact Stab.len rfl (tysOk.get rfl) rfl | exact Stab.lensL rfl (tysOk.get rfl) rfl | exact Stab.lens rfl (tysOk.get rfl) rfl) rfl rfl ?_); (refine TrA.done (by kernel_rfl) ?_))
  repeat (first | (with_reducible refine Tr.next ?_) | (with_reducible refine Tr.block ?_))
  refine Tr.publish (r := box _ 30 _) (by repeat (first | exact Del.here | apply Del.there)) (fun M12 hm12 hok12 => ?_)
  generalize hb4 : b = b4 at hok12
  have hm1012 := hm11.trans hm12
  have hz := three_paths hok12 (hq10.mono RD.mono hm1012) (hlo.mono RD.mono hm12) (hqh.mono RD.mono hm1012)
  have hzl : ∀ z ∈ [Q, Q ++ [d], Q.take (Q.length / 2)], z.length ≤ 25 := by
    intro z hz
    simp at hz
    rcases hz with rfl | rfl | rfl <;> first | omega | (simp; omega)
  generalize hzs : [Q, Q ++ [d], Q.take (Q.length / 2)] = zs at hz hzl
  have hz3 : zs.length = 3 := by rw [← hzs]; rfl
  clear hzs hok12
  have hm012 := hm010.trans hm1012
  refine Tr.loop (α := Nat × Mem) (fun y => ⟨117, [(86, .int .i64 y.1), (85, .int .i64 (3 : Nat)), (84, .slice (some ⟨b4, 0, none⟩) 3 3), (17, .int .i64 m), (68, .int .i64 j), (67, .int .i64 (2 : Nat)), (66, .slice (some ⟨b2, 0, none⟩) 2 2), (14, .slice B2 Q.length k2), (11, .int .i64 x), (38, .int .i64 i), (37, .int .i64 (2 : Nat)), (36, .slice (some ⟨b1, 0, none⟩) 2 2), (9, .slice B l.length k), (8, .bool false), (7, .pointer (some ⟨b0, 0, none⟩)), (2, .int .i64 n)], [], y.2, box b0 26 (byteV d) :: ([] ++ F)⟩)
    (fun y => y.1 ≤ 3 ∧ Mem.le M12 y.2) (fun y => 3 - y.1) (0, M12) ⟨by simp, Mem.le.refl _⟩ (holds_sub (by repeat (first | exact SubFr.nil | refine SubFr.cons rfl ?_)) (by repeat (first | exact DropL.refl | apply DropL.skip))) (fun y hy' => ?_)
  obtain ⟨q, M13⟩ := y
  obtain ⟨hq', hm13⟩ := hy'
  simp only at hq' hm13
  dsimp only
  have hm013 := hm012.trans hm13
  by_cases hqlt : q < 3
  rotate_left
  · have e : q = 3 := by omega
    subst e
    repeat (first | ((with_reducible refine Tr.step rfl ?_); (first | ((with_reducible refine Knd.move ?_); (refine Exec.stab rfl (Stab.move rfl) rfl ?_)) | ((with_reducible refine Knd.binOp ?_); (first | (refine Exec.stab rfl (Stab.addi rfl rfl (by omega)) rfl ?_) | (refine Exec.stab rfl (Stab.int rfl rfl rfl) rfl ?_))))) | (with_reducible refine Tr.next ?_) | (with_reducible refine Tr.seq ?_) | (with_reducible refine Tr.region ?_) | (with_reducible refine Tr.nil ?_) | (with_reducible refine Tr.exit ?_) | (with_reducible refine Tr.then_exit ?_) | (with_reducible refine Tr.in_normal ?_) | ((with_reducible refine Tr.in_exit ?_ ?_); (exact rfl)) | (refine Tr.cond_f rfl (by first | (with_reducible assumption) | (with_reducible rfl) | (with_reducible exact (not_not_intro rfl)) | omega) ?_))
    refine Tr.again (j + 1, M13) ⟨by simp only; omega, hm10.trans (hm1012.trans hm13)⟩ (by simp only; omega) (holds_sub (by repeat (first | exact SubFr.nil | refine SubFr.cons rfl ?_)) (by repeat (first | exact DropL.refl | apply DropL.skip)))
  obtain ⟨z, hzi⟩ := get_of_lt (xs := zs) (i := q) (by omega)
  have hzlen := hzl z (List.mem_of_getElem? hzi)
  obtain ⟨hA3, ch3, hat3, A3, c3, rfl, hzz⟩ := (hz.mono RP.mono hm13).elem hzi
  rw [box_at] at hat3
  have key : ∃ (R : List UInt8) (g : Int), (byteV R).length = 32 ∧ (g = 0 ∨ g = 1) ∧
      Fn0 Tryd.prog 22 [.agg (byteV d).toArray, .int .i64 x, .int .i64 m, .slice A3 z.length c3] M13 (fun r M' => r = .tuple #[.agg (byteV R).toArray, .int .i64 g]) ∧
      ∀ M', Mem.le M13 M' → Fn0 Tryd.prog 23 [.agg (byteV d).toArray, .int .i64 x, .int .i64 m, .slice A3 z.length c3] M' (fun r M' => r = .tuple #[.agg (byteV R).toArray, .int .i64 g]) := by
    by_cases ho : okClimb x m z.length
    · obtain ⟨o1, o2, o3, o4, o5⟩ := ho
      obtain ⟨X, rfl⟩ : ∃ X : Nat, x = (X : Int) := ⟨x.toNat, by omega⟩
      obtain ⟨Y, rfl⟩ : ∃ Y : Nat, m = (Y : Int) := ⟨m.toNat, by omega⟩
      exact ⟨climbF d X Y z, 0, by simpa using climbF_length Y d X z, .inl rfl, climbOk_fn M13 (hK.mono hm013) d hd X Y z A3 c3 hzz (by omega) (by omega) o5, fun M' hm => rclimbOk_fn M' d hd X Y z A3 c3 (hzz.mono RD.mono hm) (by omega) (by omega) o5⟩
    · exact ⟨zDig, 1, rfl, .inr rfl, Fn0.mono (climbBad_fn M13 d hd x m z.length A3 c3 (by omega) hmr ho) (fun _ _ _ h => h.1), fun M' _ => Fn0.mono (rclimbBad_fn M' d hd x m z.length A3 c3 (by omega) hmr ho) (fun _ _ _ h => h.1)⟩
  obtain ⟨R, g, hR, hg, fc, fcr⟩ := key
  have lR : R.length = 32 := by simpa using hR
  have hRR : decide (¬ R = R) = false := decide_eq_false (not_not_intro rfl)
  repeat (first | ((with_reducible refine Tr.step rfl ?_); (first | ((with_reducible refine Knd.move ?_); (refine Exec.stab rfl (Stab.move rfl) rfl ?_)) | ((with_reducible refine Knd.assign ?_); (refine Exec.stab rfl (Stab.assign rfl) rfl ?_)) | ((with_reducible refine Knd.load ?_); (first | (refine Exec.stab rfl (Stab.loadW rfl (tysOk.get rfl) rfl (by repeat (first | exact Has.here | apply Has.there)) (by assumption)) rfl ?_) | (refine Exec.stab rfl (Stab.loadM rfl (tysOk.get rfl) rfl (by assumption)) rfl ?_))) | ((with_reducible refine Knd.binOp ?_); ((refine Exec.stab rfl (Stab.int rfl rfl rfl) rfl ?_))) | ((with_reducible refine Knd.indexAddr ?_); ((refine Exec.stab rfl (Stab.indexB0 rfl rfl (tysOk.get rfl) rfl (tysOk.get rfl) rfl (by omega) (by omega)) rfl ?_))))) | (with_reducible refine Tr.next ?_) | (with_reducible refine Tr.seq ?_) | (with_reducible refine Tr.region ?_) | (with_reducible refine Tr.nil ?_) | (with_reducible refine Tr.skip ?_) | (with_reducible refine Tr.block ?_) | (refine Tr.cond_t rfl (by first | (with_reducible assumption) | (with_reducible rfl) | (with_reducible exact (not_not_intro rfl)) | omega) ?_))
  ((refine Tr.step rfl ?_)); refine Exec.call0 rfl (fc) rfl ?_
  rintro _ M14 hm14 rfl
  repeat (first | ((with_reducible refine Tr.step rfl ?_); (first | ((with_reducible refine Knd.move ?_); (refine Exec.stab rfl (Stab.move rfl) rfl ?_)) | ((with_reducible refine Knd.assign ?_); (refine Exec.stab rfl (Stab.assign rfl) rfl ?_)) | ((with_reducible refine Knd.load ?_); ((refine Exec.stab rfl (Stab.loadW rfl (tysOk.get rfl) rfl (by repeat (first | exact Has.here | apply Has.there)) (by assumption)) rfl ?_))) | ((with_reducible refine Knd.store ?_); ((refine Exec.storeW rfl rfl (tysOk.get rfl) (by repeat (first | exact Upd.here | apply Upd.there)) (by first | rfl | assumption) (by first | rfl | assumption) (by first | exact AllOne.bytes _ | exact AllOne.words _ | exact (by repeat (first | exact AllOne.nil | refine AllOne.cons (by first | rfl | assumption) ?_))) ?_))) | ((with_reducible refine Knd.alloc ?_); (first | (refine Exec.alloc (tysOk.get rfl) rfl rfl (fun b => ?_)) | (refine Exec.alloc1 (tysOk.get rfl) rfl rfl rfl (fun b => ?_)))) | ((with_reducible refine Knd.extract ?_); (refine Exec.stab rfl (Stab.extract rfl rfl) rfl ?_)))) | (with_reducible refine Tr.next ?_) | (with_reducible refine Tr.seq ?_) | (with_reducible refine Tr.region ?_) | (with_reducible refine Tr.nil ?_))
  ((refine Tr.step rfl ?_)); refine Exec.call0 rfl (fcr M14 hm14) rfl ?_
  rintro _ M15 hm15 rfl
  repeat (first | ((with_reducible refine Tr.step rfl ?_); (first | ((with_reducible refine Knd.move ?_); (refine Exec.stab rfl (Stab.move rfl) rfl ?_)) | ((with_reducible refine Knd.assign ?_); (refine Exec.stab rfl (Stab.assign rfl) rfl ?_)) | ((with_reducible refine Knd.load ?_); ((refine Exec.stab rfl (Stab.loadW rfl (tysOk.get rfl) rfl (by repeat (first | exact Has.here | apply Has.there)) (by assumption)) rfl ?_))) | ((with_reducible refine Knd.binOp ?_); (first | (refine Exec.stab rfl (Stab.arrne rfl rfl (tysOk.get rfl) rfl (tysOk.get rfl) rfl rfl (by kernel_rfl) (by assumption) (by assumption)) rfl ?_) | (refine Exec.stab rfl (Stab.addi rfl rfl (by omega)) rfl ?_))) | ((with_reducible refine Knd.pick ?_); ((refine Exec.stab rfl (Stab.pick_f rfl (by first | (with_reducible rfl) | (with_reducible assumption) | (with_reducible exact Bool.not_true) | (with_reducible exact Bool.not_false)) rfl) rfl ?_))) | ((with_reducible refine Knd.store ?_); ((refine Exec.storeW rfl rfl (tysOk.get rfl) (by repeat (first | exact Upd.here | apply Upd.there)) (by first | rfl | assumption) (by first | rfl | assumption) (by first | exact AllOne.bytes _ | exact AllOne.words _ | exact (by repeat (first | exact AllOne.nil | refine AllOne.cons (by first | rfl | assumption) ?_))) ?_))) | ((with_reducible refine Knd.alloc ?_); (first | (refine Exec.alloc (tysOk.get rfl) rfl rfl (fun b => ?_)) | (refine Exec.alloc1 (tysOk.get rfl) rfl rfl rfl (fun b => ?_)))) | ((with_reducible refine Knd.extract ?_); (refine Exec.stab rfl (Stab.extract rfl rfl) rfl ?_)))) | (with_reducible refine Tr.next ?_) | (with_reducible refine Tr.seq ?_) | (with_reducible refine Tr.region ?_) | (with_reducible refine Tr.nil ?_) | ((refine Tr.guard_l rfl rfl rfl (by first | (with_reducible rfl) | (with_reducible assumption) | (with_reducible exact Bool.not_true) | (with_reducible exact Bool.not_false)) ?_); (first | ((with_reducible refine Knd.move ?_); (refine Exec.stab rfl (Stab.move rfl) rfl ?_)) | ((with_reducible refine Knd.binOp ?_); ((refine Exec.stab rfl (Stab.int rfl rfl rfl) rfl ?_))))) | (with_reducible refine Tr.skip ?_) | (with_reducible refine Tr.in_normal ?_) | (refine Tr.cond_f rfl (by first | (with_reducible assumption) | (with_reducible rfl) | (with_reducible exact (not_not_intro rfl)) | omega) ?_))
  rw [hRR]
  repeat (fail)
  refine Tr.again (q + 1, M15) ⟨by simp only; omega, hm13.trans (hm14.trans hm15)⟩ (by simp only; omega) (holds_sub (by repeat (first | exact SubFr.nil | refine SubFr.cons rfl ?_)) (by repeat (first | exact DropL.refl | apply DropL.skip)))
end Go.Proofs.YtoaepelmhmddmaaDoor
