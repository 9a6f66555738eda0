/-
  Texts of the proof, one after the other.
  Conditions: none.
-/
import Derived.Test.YtmikfjcdgkopkaaGreatWBfOwnL
import Derived.Test.YtmikfjcdgkopkaaGreatWBfMakeZ
import Derived.Test.YtmikfjcdgkopkaaGreatWBfDelN
import Derived.Test.YtmikfjcdgkopkaaGreatWXs
import Derived.Test.YtmikfjcdgkopkaaGreatWd
/-
 Facts: the contract of values, for one day.
 Conditions: none.
-/
namespace Go.Proofs.YtmikfjcdgkopkaaGreat
open Go Bf
attribute [local irreducible] Tr Exec Stab HasTy Go.Addr.add IntKind.wrap
def valF (l : List Fc) (k : Ky) (d known : Int) : Int := (atF l k d known).getD (-1)
set_option maxHeartbeats 16000000 in
set_option maxRecDepth 20000 in
theorem values_fn (M : Mem) (A : Option Addr) (c : Nat) (l : List Fc) (k : Ky) (d known : Int) (h : SlOf 8 RFc M (.slice A l.length c) l) (hd : 0 ≤ d ∧ d < 1024) :
  Fn0 Tryz.prog 71 [.slice A l.length c, .agg #[.int .i64 k.1, .int .i64 k.2.1, .int .i64 k.2.2], .int .i64 d, .int .i64 (d + 1), .int .i64 known] M (fun r M' => ∃ B cb, r = .tuple #[.slice B 1 cb, .int .i64 d] ∧ Ints M' (.slice B 1 cb) [valF l k d known]) := by
 have e1 : max d 0 = d := by omega
 have e2 : min (d + 1) 1024 = d + 1 := by omega
 have e3 : d + 1 - d = 1 := by omega
 refine Fn.introM Tryz.func71 rfl rfl Tryz.ntmps71 rfl fun E F => ?_
 (repeat (first | ((with_reducible refine Tr.step rfl ?_); (first | (refine xaQ ?_) | ((with_reducible refine Knd.box ?_); (first | (refine Exec.box rfl rfl (fun b => ?_)) | (refine Exec.box1 rfl (by first | rfl | assumption) rfl (fun b => ?_)))))) | (with_reducible first | apply Tr.next | apply Tr.seq | apply Tr.region | apply Tr.nil)))
 rename_i b6 b7
 generalize b = b8
 refine Tr.cut (α := Unit) (fun _ => ⟨100, [(11, .int .i64 0), (10, .slice none 0 0), (8, .pointer (some ⟨b8, 0, none⟩)), (7, .pointer (some ⟨b7, 0, none⟩)), (6, .pointer (some ⟨b6, 0, none⟩)), (0, .slice A l.length c), (4, .int .i64 known)], [], M, box b8 3 [.int .i64 (d + 1)] :: box b7 3 [.int .i64 d] :: box b6 86 [.int .i64 k.1, .int .i64 k.2.1, .int .i64 k.2.2] :: ([] ++ F)⟩) (fun _ => True) ?_ (fun _ _ => ?_)
 ·(((apply Tr.draw); (kernel_rfl)); (refine tkQ 0 (hB := by exact fun _ h => h) (s := by exact slQ) ?_); (refine tkQ 1 (s := by exact Stab.max2 rfl rfl) ?_); (refine tkQ 2 (s := by exact slQ) ?_); (refine tkQ 3 (s := by exact Stab.min2 rfl rfl) ?_))
  rw [e1, e2]
  ((refine TrA.eff 4 rfl (by kernel_rfl) (by exact .inl rfl) ?_); (((refine Knd.store ?_); ((refine xSQ ?_)))); (refine ⟨(by first | exact Mem.le.refl _ | assumption), (by exact fun _ h => h), ?_⟩); (refine TrA.eff 5 rfl (by kernel_rfl) (by exact .inl rfl) ?_); (((refine Knd.store ?_); ((refine xSQ ?_)))); (refine ⟨(by first | exact Mem.le.refl _ | assumption), (by exact fun _ h => h), ?_⟩); (refine TrA.done (by kernel_rfl) ?_))
  exact Tr.land () trivial hsQ
 dsimp only
 (refine rQ ?_)
 rw [e3]
 ((refine Tr.step rfl ?_))
 refine Exec.makeZ rfl rfl (tysOk.get rfl) rfl (tysOk.get rfl) rfl rfl rfl rfl (by omega) (by omega) (by first | omega | (simp; done) | (simp; omega)) (by omega) rfl (fun b => ?_)
 generalize b = bv
 (repeat (first | ((with_reducible refine Tr.step rfl ?_); (first | (refine xmQ ?_) | ((with_reducible refine Knd.load ?_); (first | (refine xlQ ?_) | (refine xwQ ?_))) | ((with_reducible refine Knd.binOp ?_); (refine Exec.stab rfl (Stab.subi rfl rfl (by omega)) rfl ?_)) | (refine xSQ ?_) | ((with_reducible refine Knd.alloc ?_); (refine Exec.alloc1 (tysOk.get rfl) rfl rfl rfl (fun b => ?_))) | ((with_reducible refine Knd.makeSlice ?_); (refine Exec.make rfl rfl (tysOk.get rfl) rfl (tysOk.get rfl) rfl rfl rfl (by omega) (by omega) (by first | omega | (simp; done) | (simp; omega)) (by omega) rfl (fun b => ?_))))) | (with_reducible first | apply Tr.next | apply Tr.seq | apply Tr.region | apply Tr.nil)))
 rename_i b12 bt
 generalize b = b13
 rw [e3, show (1 : Int).toNat = 1 from rfl]
 refine Tr.cells (b := bv) (cs' := lastC none) (by repeat (first | exact Upd.here | apply Upd.there)) rfl ?_
 refine Tr.cells (b := bt) (cs' := [.bool false]) (by repeat (first | exact Upd.here | apply Upd.there)) rfl ?_
 ((refine Tr.step rfl ?_))
 refine Exec.call (A := []) rfl (about_fn M A l.length c k known) (List.Perm.refl _) rfl ?_
 rintro _ _ _ _ ⟨b1, b2, b3, rfl, rfl, rfl⟩
 (repeat (first | (with_reducible first | apply Tr.next | apply Tr.nil | apply Tr.block)))
 refine Tr.rangeFunc' (A := [box b3 3 [.int .i64 known], box b2 86 [.int .i64 k.1, .int .i64 k.2.1, .int .i64 k.2.2], box b1 36 [.slice A l.length c], box b13 78 [.slice (some ⟨bt, 0, none⟩) 1 1], box bt 4 [.bool false], box b12 36 [.slice (some ⟨bv, 0, none⟩) 1 1], box bv 147 (lastC none), box b8 3 [.int .i64 (d + 1)], box b7 3 [.int .i64 d], box b6 86 [.int .i64 k.1, .int .i64 k.2.1, .int .i64 k.2.2]]) (F := F)
  (Rf := fun o M' A'' => o = none ∧ M = M' ∧ A'' = [box b13 78 [.slice (some ⟨bt, 0, none⟩) 1 1], box bt 4 [.bool (lastF l k d known).isSome], box b12 36 [.slice (some ⟨bv, 0, none⟩) 1 1], box bv 147 (lastC (lastF l k d known)), box b8 3 [.int .i64 (d + 1)], box b7 3 [.int .i64 d], box b6 86 [.int .i64 k.1, .int .i64 k.2.1, .int .i64 k.2.2]]) rfl (List.Perm.refl _) (fun lab dd lp p1 p2 p3 p4 p5 hfit => ?_) (fun dd M' A'' hm => ⟨?_, ?_⟩)
 ·refine Bf.Fn.mono (about1_fn M A c lab b1 b2 b3 l k known h
   (fun i A' => A' = [loopR lab lp, defR dd, box b13 78 [.slice (some ⟨bt, 0, none⟩) 1 1], box bt 4 [.bool ((l.take i).foldl (pick k d known) none).isSome], box b12 36 [.slice (some ⟨bv, 0, none⟩) 1 1], box bv 147 (lastC ((l.take i).foldl (pick k d known) none)), box b8 3 [.int .i64 (d + 1)], box b7 3 [.int .i64 d], box b6 86 [.int .i64 k.1, .int .i64 k.2.1, .int .i64 k.2.2]])
   _ _ rfl (List.perm_append_comm_assoc [_, _, _] [_, _] [_, _, _, _, _, _, _]) ?_ ?_) (fun v M' A' hm hR => ?_)
  ·rintro i f A' hf hk rfl
   rw [fold_take _ _ hf]
   unfold pick
   rw [about_miss hk]
   rfl
  ·rintro i f A' hf hk rfl
   rw [fold_take _ _ hf]
   generalize (l.take i).foldl (pick k d known) none = o
   unfold pick
   rw [about_hit hk]
   have e : ({ lp with state := .ready, pending := none } : Loop) = lp := by cases lp; simp_all
   refine Yl.intro (ps := [38]) p3 rfl (by simp) hfit (by repeat (first | exact Has.here | apply Has.there)) (fun E F => ?_)
   rw [p4, p5]
   (repeat (first | ((with_reducible refine Tr.step rfl ?_); (first | (refine xWQ ?_) | ((with_reducible refine Knd.alloc ?_); (refine Exec.alloc (tysOk.get rfl) rfl rfl (fun b => ?_))))) | (with_reducible first | apply Tr.next | apply Tr.region | apply Tr.nil)))
   refine Tr.begin (by repeat (first | exact Upd.here | apply Upd.there)) p1 ?_
   by_cases h1 : f.lo ≤ d
   rotate_left
   ·(repeat (first | ((with_reducible refine Tr.step rfl ?_); (first | (refine xaQ ?_) | (refine xlQ ?_) | ((with_reducible refine Knd.fieldAddr ?_); (first | (refine xfQ ?_) | (refine Exec.stab rfl (Stab.fieldN rfl (tysOk.get rfl) rfl rfl (tysOk.get rfl) rfl) rfl ?_))) | ((with_reducible refine Knd.max ?_); (refine Exec.stab rfl (Stab.max2 rfl rfl) rfl ?_)))) | (with_reducible first | apply Tr.next | apply Tr.seq | apply Tr.region | apply Tr.nil | apply Tr.block)))
    generalize b = bF
    refine Tr.loop (α := Unit) (fun _ => ⟨100, [(15, .int .i64 (max d f.lo)), (14, .pointer (some ⟨bF, 0, none⟩)), (8, .pointer (some ⟨b8, 0, none⟩))], [], M, box bF 147 (fcC f) :: loopR lab { state := .busy, pending := lp.pending, fn := lp.fn, tmps := lp.tmps, params := lp.params, assign := lp.assign, body := lp.body, defers := lp.defers } :: ([defR dd, box b13 78 [.slice (some ⟨bt, 0, none⟩) 1 1], box bt 4 [.bool o.isSome], box b12 36 [.slice (some ⟨bv, 0, none⟩) 1 1], box bv 147 (lastC o), box b8 3 [.int .i64 (d + 1)], box b7 3 [.int .i64 d], box b6 86 [.int .i64 k.1, .int .i64 k.2.1, .int .i64 k.2.2]] ++ F)⟩) (fun _ => True) (fun _ => 0) () trivial hsQ (fun _ _ => ?_)
    (repeat (first | ((with_reducible refine Tr.step rfl ?_); (first | (refine xmQ ?_) | (refine xlQ ?_) | ((with_reducible refine Knd.fieldAddr ?_); (first | (refine xfQ ?_) | (refine Exec.stab rfl (Stab.fieldN rfl (tysOk.get rfl) rfl rfl (tysOk.get rfl) rfl) rfl ?_))) | ((with_reducible refine Knd.min ?_); (refine Exec.stab rfl (Stab.min2 rfl rfl) rfl ?_)) | (refine xiQ ?_))) | (with_reducible first | apply Tr.next | apply Tr.seq | apply Tr.region | apply Tr.nil | apply Tr.exit | apply Tr.then_exit | apply Tr.in_normal) | ((with_reducible refine Tr.in_exit ?_ ?_); (exact rfl)) | (refine Tr.cond_f rfl (by first | (with_reducible assumption) | omega) ?_)))
    refine Tr.round_normal (A' := [loopR lab { lp with state := .ready, pending := none }, defR dd, box b13 78 [.slice (some ⟨bt, 0, none⟩) 1 1], box bt 4 [.bool o.isSome], box b12 36 [.slice (some ⟨bv, 0, none⟩) 1 1], box bv 147 (lastC o), box b8 3 [.int .i64 (d + 1)], box b7 3 [.int .i64 d], box b6 86 [.int .i64 k.1, .int .i64 k.2.1, .int .i64 k.2.2]]) (by repeat (first | exact Upd.here | apply Upd.there)) (DropL.skip DropL.refl) (Mem.le.refl _) ⟨rfl, ?_, rfl⟩
    rw [e, show decide (f.lo ≤ d) = false from decide_eq_false h1]
    rfl
   by_cases h2 : d < f.hi
   rotate_left
   ·(repeat (first | ((with_reducible refine Tr.step rfl ?_); (first | (refine xaQ ?_) | (refine xlQ ?_) | ((with_reducible refine Knd.fieldAddr ?_); (first | (refine xfQ ?_) | (refine Exec.stab rfl (Stab.fieldN rfl (tysOk.get rfl) rfl rfl (tysOk.get rfl) rfl) rfl ?_))) | ((with_reducible refine Knd.max ?_); (refine Exec.stab rfl (Stab.max2 rfl rfl) rfl ?_)))) | (with_reducible first | apply Tr.next | apply Tr.seq | apply Tr.region | apply Tr.nil | apply Tr.block)))
    generalize b = bF
    refine Tr.loop (α := Unit) (fun _ => ⟨100, [(15, .int .i64 (max d f.lo)), (14, .pointer (some ⟨bF, 0, none⟩)), (8, .pointer (some ⟨b8, 0, none⟩))], [], M, box bF 147 (fcC f) :: loopR lab { state := .busy, pending := lp.pending, fn := lp.fn, tmps := lp.tmps, params := lp.params, assign := lp.assign, body := lp.body, defers := lp.defers } :: ([defR dd, box b13 78 [.slice (some ⟨bt, 0, none⟩) 1 1], box bt 4 [.bool o.isSome], box b12 36 [.slice (some ⟨bv, 0, none⟩) 1 1], box bv 147 (lastC o), box b8 3 [.int .i64 (d + 1)], box b7 3 [.int .i64 d], box b6 86 [.int .i64 k.1, .int .i64 k.2.1, .int .i64 k.2.2]] ++ F)⟩) (fun _ => True) (fun _ => 0) () trivial hsQ (fun _ _ => ?_)
    (repeat (first | ((with_reducible refine Tr.step rfl ?_); (first | (refine xmQ ?_) | (refine xlQ ?_) | ((with_reducible refine Knd.fieldAddr ?_); (first | (refine xfQ ?_) | (refine Exec.stab rfl (Stab.fieldN rfl (tysOk.get rfl) rfl rfl (tysOk.get rfl) rfl) rfl ?_))) | ((with_reducible refine Knd.min ?_); (refine Exec.stab rfl (Stab.min2 rfl rfl) rfl ?_)) | (refine xiQ ?_))) | (with_reducible first | apply Tr.next | apply Tr.seq | apply Tr.region | apply Tr.nil | apply Tr.exit | apply Tr.then_exit | apply Tr.in_normal) | ((with_reducible refine Tr.in_exit ?_ ?_); (exact rfl)) | (refine Tr.cond_f rfl (by first | (with_reducible assumption) | omega) ?_)))
    refine Tr.round_normal (A' := [loopR lab { lp with state := .ready, pending := none }, defR dd, box b13 78 [.slice (some ⟨bt, 0, none⟩) 1 1], box bt 4 [.bool o.isSome], box b12 36 [.slice (some ⟨bv, 0, none⟩) 1 1], box bv 147 (lastC o), box b8 3 [.int .i64 (d + 1)], box b7 3 [.int .i64 d], box b6 86 [.int .i64 k.1, .int .i64 k.2.1, .int .i64 k.2.2]]) (by repeat (first | exact Upd.here | apply Upd.there)) (DropL.skip DropL.refl) (Mem.le.refl _) ⟨rfl, ?_, rfl⟩
    rw [e, show decide (d < f.hi) = false from decide_eq_false h2, Bool.and_false]
    rfl
   rw [show decide (f.lo ≤ d) = true from decide_eq_true h1, show decide (d < f.hi) = true from decide_eq_true h2]
   have hmx : max d f.lo = d := by omega
   cases o with
   | none =>
    simp only [lastC, Option.isSome_none]
    (repeat (first | ((with_reducible refine Tr.step rfl ?_); (first | (refine xaQ ?_) | (refine xlQ ?_) | ((with_reducible refine Knd.fieldAddr ?_); (first | (refine xfQ ?_) | (refine Exec.stab rfl (Stab.fieldN rfl (tysOk.get rfl) rfl rfl (tysOk.get rfl) rfl) rfl ?_))) | ((with_reducible refine Knd.max ?_); (refine Exec.stab rfl (Stab.max2 rfl rfl) rfl ?_)))) | (with_reducible first | apply Tr.next | apply Tr.seq | apply Tr.region | apply Tr.nil | apply Tr.block)))
    generalize b = bF
    rw [hmx]
    refine Tr.loop (α := Bool) (fun y => ⟨100, [(15, .int .i64 (if y then d + 1 else d)), (14, .pointer (some ⟨bF, 0, none⟩)), (13, .pointer (some ⟨b13, 0, none⟩)), (12, .pointer (some ⟨b12, 0, none⟩)), (8, .pointer (some ⟨b8, 0, none⟩)), (7, .pointer (some ⟨b7, 0, none⟩))], [], M, box bF 147 [.int .i64 f.key.1, .int .i64 f.key.2.1, .int .i64 f.key.2.2, .int .i64 f.val, .int .i64 f.lo, .int .i64 f.hi, .int .i64 f.known, .int .i64 f.no] :: loopR lab { state := .busy, pending := lp.pending, fn := lp.fn, tmps := lp.tmps, params := lp.params, assign := lp.assign, body := lp.body, defers := lp.defers } :: ([defR dd, box b13 78 [.slice (some ⟨bt, 0, none⟩) 1 1], box bt 4 [.bool y], box b12 36 [.slice (some ⟨bv, 0, none⟩) 1 1], box bv 147 (if y then [.int .i64 f.key.1, .int .i64 f.key.2.1, .int .i64 f.key.2.2, .int .i64 f.val, .int .i64 f.lo, .int .i64 f.hi, .int .i64 f.known, .int .i64 f.no] else [.int .i64 0, .int .i64 0, .int .i64 0, .int .i64 0, .int .i64 0, .int .i64 0, .int .i64 0, .int .i64 0]), box b8 3 [.int .i64 (d + 1)], box b7 3 [.int .i64 d], box b6 86 [.int .i64 k.1, .int .i64 k.2.1, .int .i64 k.2.2]] ++ F)⟩) (fun _ => True) (fun y => if y then 0 else 1) false trivial hsQ (fun y _ => ?_)
    cases y
    rotate_left
    ·simp only [if_true]
     (repeat (first | ((with_reducible refine Tr.step rfl ?_); (first | (refine xmQ ?_) | (refine xlQ ?_) | ((with_reducible refine Knd.fieldAddr ?_); (first | (refine xfQ ?_) | (refine Exec.stab rfl (Stab.fieldN rfl (tysOk.get rfl) rfl rfl (tysOk.get rfl) rfl) rfl ?_))) | ((with_reducible refine Knd.min ?_); (refine Exec.stab rfl (Stab.min2 rfl rfl) rfl ?_)) | (refine xiQ ?_))) | (with_reducible first | apply Tr.next | apply Tr.seq | apply Tr.region | apply Tr.nil | apply Tr.exit | apply Tr.then_exit | apply Tr.in_normal) | ((with_reducible refine Tr.in_exit ?_ ?_); (exact rfl)) | (refine Tr.cond_f rfl (by omega) ?_)))
     refine Tr.round_normal (A' := [loopR lab { lp with state := .ready, pending := none }, defR dd, box b13 78 [.slice (some ⟨bt, 0, none⟩) 1 1], box bt 4 [.bool true], box b12 36 [.slice (some ⟨bv, 0, none⟩) 1 1], box bv 147 [.int .i64 f.key.1, .int .i64 f.key.2.1, .int .i64 f.key.2.2, .int .i64 f.val, .int .i64 f.lo, .int .i64 f.hi, .int .i64 f.known, .int .i64 f.no], box b8 3 [.int .i64 (d + 1)], box b7 3 [.int .i64 d], box b6 86 [.int .i64 k.1, .int .i64 k.2.1, .int .i64 k.2.2]]) (by repeat (first | exact Upd.here | apply Upd.there)) (DropL.skip DropL.refl) (Mem.le.refl _) ⟨rfl, ?_, rfl⟩
     rw [e]
     rfl
    ·simp only [if_neg Bool.false_ne_true]
     (repeat (first | ((with_reducible refine Tr.step rfl ?_); (first | (refine xmQ ?_) | (refine xaQ ?_) | (refine xlQ ?_) | ((with_reducible refine Knd.fieldAddr ?_); (first | (refine xfQ ?_) | (refine Exec.stab rfl (Stab.fieldN rfl (tysOk.get rfl) rfl rfl (tysOk.get rfl) rfl) rfl ?_))) | ((with_reducible refine Knd.min ?_); (refine Exec.stab rfl (Stab.min2 rfl rfl) rfl ?_)) | ((with_reducible refine Knd.binOp ?_); (first | (refine Exec.stab rfl (Stab.subi rfl rfl (by omega)) rfl ?_) | (refine xiQ ?_))))) | (with_reducible first | apply Tr.next | apply Tr.seq | apply Tr.region | apply Tr.nil | apply Tr.skip | apply Tr.block) | (refine Tr.cond_t rfl (by first | (with_reducible assumption) | omega) ?_)))
     rw [Int.sub_self]
     (skip)
     refine Tr.cut (α := Unit) (fun _ => ⟨100, [(69, .bool true), (16, .int .i64 0), (15, .int .i64 d), (14, .pointer (some ⟨bF, 0, none⟩)), (13, .pointer (some ⟨b13, 0, none⟩)), (12, .pointer (some ⟨b12, 0, none⟩)), (8, .pointer (some ⟨b8, 0, none⟩)), (7, .pointer (some ⟨b7, 0, none⟩))], [], M, box bF 147 [.int .i64 f.key.1, .int .i64 f.key.2.1, .int .i64 f.key.2.2, .int .i64 f.val, .int .i64 f.lo, .int .i64 f.hi, .int .i64 f.known, .int .i64 f.no] :: loopR lab { state := .busy, pending := lp.pending, fn := lp.fn, tmps := lp.tmps, params := lp.params, assign := lp.assign, body := lp.body, defers := lp.defers } :: ([defR dd, box b13 78 [.slice (some ⟨bt, 0, none⟩) 1 1], box bt 4 [.bool false], box b12 36 [.slice (some ⟨bv, 0, none⟩) 1 1], box bv 147 [.int .i64 0, .int .i64 0, .int .i64 0, .int .i64 0, .int .i64 0, .int .i64 0, .int .i64 0, .int .i64 0], box b8 3 [.int .i64 (d + 1)], box b7 3 [.int .i64 d], box b6 86 [.int .i64 k.1, .int .i64 k.2.1, .int .i64 k.2.2]] ++ F)⟩) (fun _ => True) ?_ (fun _ _ => ?_)
     ·(((apply Tr.draw); (kernel_rfl)); (refine tkQ 0 (hB := by exact fun _ h => h) (s := by exact slQ) ?_); (refine tkQ 1 (s := by exact Stab.move rfl) ?_); (refine tkQ 2 (s := by exact Stab.indexB0 rfl rfl (tysOk.get rfl) rfl (tysOk.get rfl) rfl (by omega) (by omega)) ?_); (refine tkQ 3 (s := by exact slQ) ?_); (refine tkQ 4 (s := by exact Stab.not rfl) ?_); (refine tkQ 5 (s := by exact Stab.move rfl) ?_); ((refine tuQ 6 ?_)); ((refine tuQ 7 ?_)); ((refine tuQ 8 ?_)); ((refine tuQ 9 ?_)); ((refine tuQ 10 ?_)); ((refine tuQ 11 ?_)); ((refine tuQ 12 ?_)); (refine tkQ 13 (s := by exact Stab.pick_t rfl (by (with_reducible exact Bool.not_false)) rfl) ?_); (refine TrA.done (by kernel_rfl) ?_))
      exact Tr.land () trivial hsQ
     (repeat (first | (with_reducible refine Tr.next ?_) | (refine Tr.cond_bt rfl (by (with_reducible rfl)) ?_)))
     refine ftQ (r := box bt 4 _) ?_
     refine ftQ (r := box bv 147 _) ?_
     refine Tr.cut (α := Unit) (fun _ => ⟨100, [(15, .int .i64 d), (14, .pointer (some ⟨bF, 0, none⟩)), (13, .pointer (some ⟨b13, 0, none⟩)), (12, .pointer (some ⟨b12, 0, none⟩)), (8, .pointer (some ⟨b8, 0, none⟩)), (7, .pointer (some ⟨b7, 0, none⟩))], [], M, box bv 147 [.int .i64 f.key.1, .int .i64 f.key.2.1, .int .i64 f.key.2.2, .int .i64 f.val, .int .i64 f.lo, .int .i64 f.hi, .int .i64 f.known, .int .i64 f.no] :: box bt 4 [.bool true] :: box bF 147 [.int .i64 f.key.1, .int .i64 f.key.2.1, .int .i64 f.key.2.2, .int .i64 f.val, .int .i64 f.lo, .int .i64 f.hi, .int .i64 f.known, .int .i64 f.no] :: loopR lab { state := .busy, pending := lp.pending, fn := lp.fn, tmps := lp.tmps, params := lp.params, assign := lp.assign, body := lp.body, defers := lp.defers } :: ([defR dd, box b13 78 [.slice (some ⟨bt, 0, none⟩) 1 1], box b12 36 [.slice (some ⟨bv, 0, none⟩) 1 1], box b8 3 [.int .i64 (d + 1)], box b7 3 [.int .i64 d], box b6 86 [.int .i64 k.1, .int .i64 k.2.1, .int .i64 k.2.2]] ++ F)⟩) (fun _ => True) ?_ (fun _ _ => ?_)
     ·(((apply Tr.draw ((box bF 147 _ :: _))); (kernel_rfl)); (refine tkQ 0 (hB := by exact (Sub.mem (by repeat (first | exact Sub.refl | apply Sub.cons)))) (s := by exact slQ) ?_); (refine tkQ 1 (s := by exact Stab.move rfl) ?_); (refine tkQ 2 (s := by exact slQ) ?_); (refine tkQ 3 (s := by exact Stab.move rfl) ?_); (refine tkQ 4 (s := by exact swQ) ?_); (refine tkQ 5 (s := by exact Stab.indexB rfl rfl (tysOk.get rfl) rfl (tysOk.get rfl) rfl (by omega) (by omega)) ?_); (refine TrA.eff 6 rfl (by kernel_rfl) (by exact .inl rfl) ?_); (((refine Knd.store ?_); ((refine xWQ ?_)))); (refine ⟨(by first | exact Mem.le.refl _ | assumption), (by exact (Sub.mem (by repeat (first | exact Sub.refl | apply Sub.cons)))), ?_⟩); (refine tkQ 7 (s := by exact Stab.indexB0 rfl rfl (tysOk.get rfl) rfl (tysOk.get rfl) rfl (by omega) (by omega)) ?_); (refine TrA.eff 8 rfl (by kernel_rfl) (by exact .inl rfl) ?_); (((refine Knd.store ?_); ((refine xSQ ?_)))); (refine ⟨(by first | exact Mem.le.refl _ | assumption), (by exact (Sub.mem (by repeat (first | exact Sub.refl | apply Sub.cons)))), ?_⟩); (refine TrA.done (by kernel_rfl) ?_))
      exact Tr.land () trivial hsQ
     (repeat (first | ((with_reducible refine Tr.step rfl ?_); (first | (refine xmQ ?_) | (refine xaQ ?_) | (refine xdQ ?_))) | (with_reducible first | apply Tr.next | apply Tr.region | apply Tr.nil | apply Tr.in_normal)))
     refine ftQ (r := box b12 36 _) ?_
     refine ftQ (r := box bt 4 _) ?_
     refine ftQ (r := box b13 78 _) ?_
     refine ftQ (r := defR dd) ?_
     refine ftQ (r := loopR lab _) ?_
     refine ftQ (r := box bF 147 _) ?_
     exact Tr.again true trivial (by decide) hsQ
   | some g =>
    simp only [lastC, fcC, Option.isSome_some]
    (repeat (first | ((with_reducible refine Tr.step rfl ?_); (first | (refine xaQ ?_) | (refine xlQ ?_) | ((with_reducible refine Knd.fieldAddr ?_); (first | (refine xfQ ?_) | (refine Exec.stab rfl (Stab.fieldN rfl (tysOk.get rfl) rfl rfl (tysOk.get rfl) rfl) rfl ?_))) | ((with_reducible refine Knd.max ?_); (refine Exec.stab rfl (Stab.max2 rfl rfl) rfl ?_)))) | (with_reducible first | apply Tr.next | apply Tr.seq | apply Tr.region | apply Tr.nil | apply Tr.block)))
    generalize b = bF
    rw [hmx]
    refine Tr.loop (α := Bool) (fun y => ⟨100, [(15, .int .i64 (if y then d + 1 else d)), (14, .pointer (some ⟨bF, 0, none⟩)), (13, .pointer (some ⟨b13, 0, none⟩)), (12, .pointer (some ⟨b12, 0, none⟩)), (8, .pointer (some ⟨b8, 0, none⟩)), (7, .pointer (some ⟨b7, 0, none⟩))], [], M, box bF 147 [.int .i64 f.key.1, .int .i64 f.key.2.1, .int .i64 f.key.2.2, .int .i64 f.val, .int .i64 f.lo, .int .i64 f.hi, .int .i64 f.known, .int .i64 f.no] :: loopR lab { state := .busy, pending := lp.pending, fn := lp.fn, tmps := lp.tmps, params := lp.params, assign := lp.assign, body := lp.body, defers := lp.defers } :: ([defR dd, box b13 78 [.slice (some ⟨bt, 0, none⟩) 1 1], box bt 4 [.bool true], box b12 36 [.slice (some ⟨bv, 0, none⟩) 1 1], box bv 147 (if y && decide (orderF g f ≤ 0) then [.int .i64 f.key.1, .int .i64 f.key.2.1, .int .i64 f.key.2.2, .int .i64 f.val, .int .i64 f.lo, .int .i64 f.hi, .int .i64 f.known, .int .i64 f.no] else [.int .i64 g.key.1, .int .i64 g.key.2.1, .int .i64 g.key.2.2, .int .i64 g.val, .int .i64 g.lo, .int .i64 g.hi, .int .i64 g.known, .int .i64 g.no]), box b8 3 [.int .i64 (d + 1)], box b7 3 [.int .i64 d], box b6 86 [.int .i64 k.1, .int .i64 k.2.1, .int .i64 k.2.2]] ++ F)⟩) (fun _ => True) (fun y => if y then 0 else 1) false trivial hsQ (fun y _ => ?_)
    cases y
    rotate_left
    ·simp only [Bool.true_and, if_true]
     by_cases h3 : orderF g f ≤ 0
     ·simp only [decide_eq_true h3, if_true]
      (repeat (first | ((with_reducible refine Tr.step rfl ?_); (first | (refine xmQ ?_) | (refine xlQ ?_) | ((with_reducible refine Knd.fieldAddr ?_); (first | (refine xfQ ?_) | (refine Exec.stab rfl (Stab.fieldN rfl (tysOk.get rfl) rfl rfl (tysOk.get rfl) rfl) rfl ?_))) | ((with_reducible refine Knd.min ?_); (refine Exec.stab rfl (Stab.min2 rfl rfl) rfl ?_)) | (refine xiQ ?_))) | (with_reducible first | apply Tr.next | apply Tr.seq | apply Tr.region | apply Tr.nil | apply Tr.exit | apply Tr.then_exit | apply Tr.in_normal) | ((with_reducible refine Tr.in_exit ?_ ?_); (exact rfl)) | (refine Tr.cond_f rfl (by omega) ?_)))
      refine Tr.round_normal (A' := [loopR lab { lp with state := .ready, pending := none }, defR dd, box b13 78 [.slice (some ⟨bt, 0, none⟩) 1 1], box bt 4 [.bool true], box b12 36 [.slice (some ⟨bv, 0, none⟩) 1 1], box bv 147 [.int .i64 f.key.1, .int .i64 f.key.2.1, .int .i64 f.key.2.2, .int .i64 f.val, .int .i64 f.lo, .int .i64 f.hi, .int .i64 f.known, .int .i64 f.no], box b8 3 [.int .i64 (d + 1)], box b7 3 [.int .i64 d], box b6 86 [.int .i64 k.1, .int .i64 k.2.1, .int .i64 k.2.2]]) (by repeat (first | exact Upd.here | apply Upd.there)) (DropL.skip DropL.refl) (Mem.le.refl _) ⟨rfl, ?_, rfl⟩
      rw [e]
      simp [(orderF_le g f).1 h3]
     ·simp only [decide_eq_false h3, if_neg Bool.false_ne_true]
      (repeat (first | ((with_reducible refine Tr.step rfl ?_); (first | (refine xmQ ?_) | (refine xlQ ?_) | ((with_reducible refine Knd.fieldAddr ?_); (first | (refine xfQ ?_) | (refine Exec.stab rfl (Stab.fieldN rfl (tysOk.get rfl) rfl rfl (tysOk.get rfl) rfl) rfl ?_))) | ((with_reducible refine Knd.min ?_); (refine Exec.stab rfl (Stab.min2 rfl rfl) rfl ?_)) | (refine xiQ ?_))) | (with_reducible first | apply Tr.next | apply Tr.seq | apply Tr.region | apply Tr.nil | apply Tr.exit | apply Tr.then_exit | apply Tr.in_normal) | ((with_reducible refine Tr.in_exit ?_ ?_); (exact rfl)) | (refine Tr.cond_f rfl (by first | (with_reducible assumption) | omega) ?_)))
      refine Tr.round_normal (A' := [loopR lab { lp with state := .ready, pending := none }, defR dd, box b13 78 [.slice (some ⟨bt, 0, none⟩) 1 1], box bt 4 [.bool true], box b12 36 [.slice (some ⟨bv, 0, none⟩) 1 1], box bv 147 [.int .i64 g.key.1, .int .i64 g.key.2.1, .int .i64 g.key.2.2, .int .i64 g.val, .int .i64 g.lo, .int .i64 g.hi, .int .i64 g.known, .int .i64 g.no], box b8 3 [.int .i64 (d + 1)], box b7 3 [.int .i64 d], box b6 86 [.int .i64 k.1, .int .i64 k.2.1, .int .i64 k.2.2]]) (by repeat (first | exact Upd.here | apply Upd.there)) (DropL.skip DropL.refl) (Mem.le.refl _) ⟨rfl, ?_, rfl⟩
      have hb : before f g = true := by cases hb : before f g with | true => rfl | false => exact absurd ((orderF_le g f).2 hb) h3
      rw [e]
      simp [hb]
    ·simp only [Bool.false_and, if_neg Bool.false_ne_true]
     (repeat (first | ((with_reducible refine Tr.step rfl ?_); (first | (refine xmQ ?_) | (refine xaQ ?_) | (refine xlQ ?_) | ((with_reducible refine Knd.fieldAddr ?_); (first | (refine xfQ ?_) | (refine Exec.stab rfl (Stab.fieldN rfl (tysOk.get rfl) rfl rfl (tysOk.get rfl) rfl) rfl ?_))) | ((with_reducible refine Knd.min ?_); (refine Exec.stab rfl (Stab.min2 rfl rfl) rfl ?_)) | ((with_reducible refine Knd.binOp ?_); (first | (refine Exec.stab rfl (Stab.subi rfl rfl (by omega)) rfl ?_) | (refine xiQ ?_))))) | (with_reducible first | apply Tr.next | apply Tr.seq | apply Tr.region | apply Tr.nil | apply Tr.skip | apply Tr.block) | (refine Tr.cond_t rfl (by first | (with_reducible assumption) | omega) ?_)))
     rw [Int.sub_self]
     (skip)
     refine Tr.cut (α := Unit) (fun _ => ⟨100, [(69, .bool (decide (orderF g f ≤ 0))), (16, .int .i64 0), (15, .int .i64 d), (14, .pointer (some ⟨bF, 0, none⟩)), (13, .pointer (some ⟨b13, 0, none⟩)), (12, .pointer (some ⟨b12, 0, none⟩)), (8, .pointer (some ⟨b8, 0, none⟩)), (7, .pointer (some ⟨b7, 0, none⟩))], [], M, box bF 147 [.int .i64 f.key.1, .int .i64 f.key.2.1, .int .i64 f.key.2.2, .int .i64 f.val, .int .i64 f.lo, .int .i64 f.hi, .int .i64 f.known, .int .i64 f.no] :: loopR lab { state := .busy, pending := lp.pending, fn := lp.fn, tmps := lp.tmps, params := lp.params, assign := lp.assign, body := lp.body, defers := lp.defers } :: ([defR dd, box b13 78 [.slice (some ⟨bt, 0, none⟩) 1 1], box bt 4 [.bool true], box b12 36 [.slice (some ⟨bv, 0, none⟩) 1 1], box bv 147 [.int .i64 g.key.1, .int .i64 g.key.2.1, .int .i64 g.key.2.2, .int .i64 g.val, .int .i64 g.lo, .int .i64 g.hi, .int .i64 g.known, .int .i64 g.no], box b8 3 [.int .i64 (d + 1)], box b7 3 [.int .i64 d], box b6 86 [.int .i64 k.1, .int .i64 k.2.1, .int .i64 k.2.2]] ++ F)⟩) (fun _ => True) ?_ (fun _ _ => ?_)
     ·(((apply Tr.draw); (kernel_rfl)); (refine tkQ 0 (hB := by exact fun _ h => h) (s := by exact slQ) ?_); (refine tkQ 1 (s := by exact Stab.move rfl) ?_); (refine tkQ 2 (s := by exact Stab.indexB0 rfl rfl (tysOk.get rfl) rfl (tysOk.get rfl) rfl (by omega) (by omega)) ?_); (refine tkQ 3 (s := by exact slQ) ?_); (refine tkQ 4 (s := by exact Stab.not rfl) ?_))
      simp only [Bool.not_true]
      ((refine tkQ 5 (s := by exact Stab.move rfl) ?_); ((refine tgQ 6 (s := by exact slQ) ?_)); ((refine tgQ 7 (s := by exact Stab.move rfl) ?_)); ((refine tgQ 8 (s := by exact Stab.indexB rfl rfl (tysOk.get rfl) rfl (tysOk.get rfl) rfl (by omega) (by omega)) ?_)); ((refine tgQ 9 (s := by exact swQ) ?_)); ((refine tgQ 10 (s := by exact swQ) ?_)); (refine TrA.eff 11 rfl (by kernel_rfl) (by exact .inr ⟨_, _, _, rfl, rfl, rfl⟩) ?_))
      refine Exec.call0 rfl (order_fn M g f) rfl ?_
      rintro _ _ hm9 ⟨rfl, rfl⟩
      refine ⟨hm9, (by exact fun _ h => h), ?_⟩
      (((refine tgQ 12 (s := by exact siQ) ?_)); (refine tkQ 13 (s := by exact Stab.pick_f rfl (by (with_reducible rfl)) rfl) ?_); (refine TrA.done (by kernel_rfl) ?_))
      exact Tr.land () trivial hsQ
     by_cases h3 : orderF g f ≤ 0
     rotate_left
     ·rw [decide_eq_false h3]
      (repeat (first | ((with_reducible refine Tr.step rfl ?_); (first | (refine xmQ ?_) | (refine xaQ ?_) | (refine xdQ ?_))) | (with_reducible first | apply Tr.next | apply Tr.region | apply Tr.nil | apply Tr.skip | apply Tr.in_normal) | (refine Tr.cond_bf rfl (by (with_reducible rfl)) ?_)))
      exact Tr.again true trivial (by decide) (by simp only [Bool.true_and, if_true, if_neg Bool.false_ne_true]; exact hsQ)
     rw [decide_eq_true h3]
     (repeat (first | (with_reducible refine Tr.next ?_) | (refine Tr.cond_bt rfl (by (with_reducible rfl)) ?_)))
     refine ftQ (r := box bt 4 _) ?_
     refine ftQ (r := box bv 147 _) ?_
     refine Tr.cut (α := Unit) (fun _ => ⟨100, [(15, .int .i64 d), (14, .pointer (some ⟨bF, 0, none⟩)), (13, .pointer (some ⟨b13, 0, none⟩)), (12, .pointer (some ⟨b12, 0, none⟩)), (8, .pointer (some ⟨b8, 0, none⟩)), (7, .pointer (some ⟨b7, 0, none⟩))], [], M, box bv 147 [.int .i64 f.key.1, .int .i64 f.key.2.1, .int .i64 f.key.2.2, .int .i64 f.val, .int .i64 f.lo, .int .i64 f.hi, .int .i64 f.known, .int .i64 f.no] :: box bt 4 [.bool true] :: box bF 147 [.int .i64 f.key.1, .int .i64 f.key.2.1, .int .i64 f.key.2.2, .int .i64 f.val, .int .i64 f.lo, .int .i64 f.hi, .int .i64 f.known, .int .i64 f.no] :: loopR lab { state := .busy, pending := lp.pending, fn := lp.fn, tmps := lp.tmps, params := lp.params, assign := lp.assign, body := lp.body, defers := lp.defers } :: ([defR dd, box b13 78 [.slice (some ⟨bt, 0, none⟩) 1 1], box b12 36 [.slice (some ⟨bv, 0, none⟩) 1 1], box b8 3 [.int .i64 (d + 1)], box b7 3 [.int .i64 d], box b6 86 [.int .i64 k.1, .int .i64 k.2.1, .int .i64 k.2.2]] ++ F)⟩) (fun _ => True) ?_ (fun _ _ => ?_)
     ·(((apply Tr.draw ((box bF 147 _ :: _))); (kernel_rfl)); (refine tkQ 0 (hB := by exact (Sub.mem (by repeat (first | exact Sub.refl | apply Sub.cons)))) (s := by exact slQ) ?_); (refine tkQ 1 (s := by exact Stab.move rfl) ?_); (refine tkQ 2 (s := by exact slQ) ?_); (refine tkQ 3 (s := by exact Stab.move rfl) ?_); (refine tkQ 4 (s := by exact swQ) ?_); (refine tkQ 5 (s := by exact Stab.indexB rfl rfl (tysOk.get rfl) rfl (tysOk.get rfl) rfl (by omega) (by omega)) ?_); (refine TrA.eff 6 rfl (by kernel_rfl) (by exact .inl rfl) ?_); (((refine Knd.store ?_); ((refine xWQ ?_)))); (refine ⟨(by first | exact Mem.le.refl _ | assumption), (by exact (Sub.mem (by repeat (first | exact Sub.refl | apply Sub.cons)))), ?_⟩); (refine tkQ 7 (s := by exact Stab.indexB0 rfl rfl (tysOk.get rfl) rfl (tysOk.get rfl) rfl (by omega) (by omega)) ?_); (refine TrA.eff 8 rfl (by kernel_rfl) (by exact .inl rfl) ?_); (((refine Knd.store ?_); ((refine xSQ ?_)))); (refine ⟨(by first | exact Mem.le.refl _ | assumption), (by exact (Sub.mem (by repeat (first | exact Sub.refl | apply Sub.cons)))), ?_⟩); (refine TrA.done (by kernel_rfl) ?_))
      exact Tr.land () trivial hsQ
     (repeat (first | ((with_reducible refine Tr.step rfl ?_); (first | (refine xmQ ?_) | (refine xaQ ?_) | (refine xdQ ?_))) | (with_reducible first | apply Tr.next | apply Tr.region | apply Tr.nil | apply Tr.in_normal)))
     refine ftQ (r := box b12 36 _) ?_
     refine ftQ (r := box bt 4 _) ?_
     refine ftQ (r := box b13 78 _) ?_
     refine ftQ (r := defR dd) ?_
     refine ftQ (r := loopR lab _) ?_
     refine ftQ (r := box bF 147 _) ?_
     exact Tr.again true trivial (by decide) (by simp only [Bool.true_and, if_true]; exact hsQ)
  ·obtain ⟨rfl, rfl⟩ := hR
   rw [List.take_length]
   exact ⟨lp, _, rfl, by rw [p1]; decide, p2, rfl, rfl⟩
 ·rintro ⟨-, rfl, rfl⟩
  have hat : atF l k d known = valOf (lastF l k d known) := rfl
  unfold valF
  rw [hat]
  generalize lastF l k d known = o
  cases o with
  | none =>
   simp only [lastC, Option.isSome_none]
   (repeat (first | ((with_reducible refine Tr.step rfl ?_); (first | (refine xmQ ?_) | (refine xlQ ?_) | (refine xnQ ?_))) | (with_reducible first | apply Tr.next | apply Tr.seq | apply Tr.region | apply Tr.nil | apply Tr.block | apply Tr.in_normal)))
   refine Tr.loop (α := Option (Option Addr × Nat)) (fun y => match y with
    | none => ⟨100, [(79, .int .i64 0), (10, .slice none 0 0), (78, .int .i64 1), (77, .slice (some ⟨bv, 0, none⟩) 1 1), (13, .pointer (some ⟨b13, 0, none⟩)), (7, .pointer (some ⟨b7, 0, none⟩)), (11, .int .i64 0)], [coll dd], M, defR dd :: ([box b13 78 [.slice (some ⟨bt, 0, none⟩) 1 1], box bt 4 [.bool false], box b12 36 [.slice (some ⟨bv, 0, none⟩) 1 1], box bv 147 [.int .i64 0, .int .i64 0, .int .i64 0, .int .i64 0, .int .i64 0, .int .i64 0, .int .i64 0, .int .i64 0], box b8 3 [.int .i64 (d + 1)], box b7 3 [.int .i64 d], box b6 86 [.int .i64 k.1, .int .i64 k.2.1, .int .i64 k.2.2]] ++ F)⟩
    | some z => ⟨100, [(79, .int .i64 1), (10, .slice z.1 1 z.2), (78, .int .i64 1), (77, .slice (some ⟨bv, 0, none⟩) 1 1), (13, .pointer (some ⟨b13, 0, none⟩)), (7, .pointer (some ⟨b7, 0, none⟩)), (11, .int .i64 0)], [coll dd], M, ownS 3 1 z.1 1 z.2 [.int .i64 (-1)] :: defR dd :: ([box b13 78 [.slice (some ⟨bt, 0, none⟩) 1 1], box bt 4 [.bool false], box b12 36 [.slice (some ⟨bv, 0, none⟩) 1 1], box bv 147 [.int .i64 0, .int .i64 0, .int .i64 0, .int .i64 0, .int .i64 0, .int .i64 0, .int .i64 0, .int .i64 0], box b8 3 [.int .i64 (d + 1)], box b7 3 [.int .i64 d], box b6 86 [.int .i64 k.1, .int .i64 k.2.1, .int .i64 k.2.2]] ++ F)⟩)
    (fun y => match y with | none => True | some z => z.2 ≤ 9223372036854775807) (fun y => match y with | none => 1 | some _ => 0) none trivial hsQ (fun y hy => ?_)
   cases y with
   | none =>
    dsimp only
    (repeat (first | ((with_reducible refine Tr.step rfl ?_); (first | (refine xmQ ?_) | (refine xaQ ?_) | ((with_reducible refine Knd.load ?_); (first | (refine xlQ ?_) | (refine xwQ ?_))) | (refine xiQ ?_) | (refine xWQ ?_) | ((with_reducible refine Knd.alloc ?_); (refine Exec.alloc (tysOk.get rfl) rfl rfl (fun b => ?_))) | ((with_reducible refine Knd.indexAddr ?_); (first | (refine Exec.stab rfl (Stab.indexB0 rfl rfl (tysOk.get rfl) rfl (tysOk.get rfl) rfl (by omega) (by omega)) rfl ?_) | (refine Exec.stab rfl (Stab.indexB rfl rfl (tysOk.get rfl) rfl (tysOk.get rfl) rfl (by omega) (by omega)) rfl ?_))) | ((with_reducible refine Knd.buildSlice ?_); (refine Exec.buildSlice (tysOk.get rfl) rfl (tysOk.get rfl) rfl rfl rfl rfl rfl (by repeat (first | exact BuildP.nil | ((apply BuildP.one); (rfl); (rfl); (first | rfl | assumption); (repeat (first | exact SetL.z | apply SetL.s))))) rfl (fun b => ?_))))) | (with_reducible first | apply Tr.next | apply Tr.seq | apply Tr.region | apply Tr.nil | apply Tr.skip | apply Tr.block) | (refine Tr.cond_bf rfl (by (with_reducible rfl)) ?_) | (refine Tr.cond_t rfl (by first | (with_reducible assumption) | omega) ?_)))
    refine Tr.own_nil 3 1 ?_
    ((refine Tr.step rfl ?_))
    refine Exec.append (news := [.int .i64 (-1)]) rfl rfl (tysOk.get rfl) rfl (tysOk.get rfl) rfl rfl rfl rfl (by repeat (first | exact Del.here | apply Del.there)) (Src.box (by repeat (first | exact Has.here | apply Has.there))) rfl (by intro u hu; simp at hu; subst hu; rfl) (by omega) (by omega) rfl (fun A3 c3 hc3 => ?_)
    refine gvQ (r := box _ 3 [.int .i64 (-1)]) ?_
    refine gvQ (r := box _ 147 _) ?_
    (repeat (first | ((with_reducible refine Tr.step rfl ?_); (first | (refine xmQ ?_) | (refine xaQ ?_) | (refine xdQ ?_))) | (with_reducible first | apply Tr.next | apply Tr.region | apply Tr.nil | apply Tr.in_normal)))
    exact Tr.again (some (A3, c3)) hc3 (by simp) hsQ
   | some z =>
    obtain ⟨A3, c3⟩ := z
    dsimp only at hy ⊢
    (refine rQ ?_)
    refine Tr.cut (α := Unit) (fun _ => ⟨100, [(10, .slice A3 1 c3), (11, .int .i64 d)], [coll dd], M, ownS 3 1 A3 1 c3 [.int .i64 (-1)] :: defR dd :: ([box b13 78 [.slice (some ⟨bt, 0, none⟩) 1 1], box bt 4 [.bool false], box b12 36 [.slice (some ⟨bv, 0, none⟩) 1 1], box bv 147 [.int .i64 0, .int .i64 0, .int .i64 0, .int .i64 0, .int .i64 0, .int .i64 0, .int .i64 0, .int .i64 0], box b8 3 [.int .i64 (d + 1)], box b7 3 [.int .i64 d], box b6 86 [.int .i64 k.1, .int .i64 k.2.1, .int .i64 k.2.2]] ++ F)⟩) (fun _ => True) ?_ (fun _ _ => ?_)
    ·(((apply Tr.draw); (kernel_rfl)); (refine tkQ 0 (hB := by exact fun _ h => h) (s := by exact Stab.move rfl) ?_); (refine tkQ 1 (s := by exact slQ) ?_); (refine tkQ 2 (s := by exact Stab.assign rfl) ?_); (refine tkQ 3 (s := by exact Stab.assign rfl) ?_); (refine TrA.done (by kernel_rfl) ?_))
     exact Tr.land () trivial hsQ
    refine pbQ (r := ownS 3 1 A3 _ _ _) (fun M9 hm9 hok9 => ?_)
    have hI : Ints M9 (.slice A3 [(-1)].length c3) [(-1)] := Ints.ofOwn hok9 rfl hy
    (repeat (first | (with_reducible first | apply Tr.next | apply Tr.ret)))
    (refine Tr.doneM [_] rfl (by first | exact .inl rfl | exact .inr rfl) rfl (List.Perm.refl _) (by repeat (first | exact RVs.nil | (apply RVs.cons; (exact RV.tmp rfl)))) (by first | exact Mem.le.refl _ | assumption) (by exact ⟨[_, _, _, _, _, _, _], rfl⟩) ⟨rfl, ?_⟩)
    refine ⟨_, _, rfl, ?_⟩
    exact hI
  | some g =>
   simp only [lastC, fcC, Option.isSome_some]
   (repeat (first | ((with_reducible refine Tr.step rfl ?_); (first | (refine xmQ ?_) | (refine xlQ ?_) | (refine xnQ ?_))) | (with_reducible first | apply Tr.next | apply Tr.seq | apply Tr.region | apply Tr.nil | apply Tr.block | apply Tr.in_normal)))
   refine Tr.loop (α := Option (Option Addr × Nat)) (fun y => match y with
    | none => ⟨100, [(79, .int .i64 0), (10, .slice none 0 0), (78, .int .i64 1), (77, .slice (some ⟨bv, 0, none⟩) 1 1), (13, .pointer (some ⟨b13, 0, none⟩)), (7, .pointer (some ⟨b7, 0, none⟩)), (11, .int .i64 0)], [coll dd], M, defR dd :: ([box b13 78 [.slice (some ⟨bt, 0, none⟩) 1 1], box bt 4 [.bool true], box b12 36 [.slice (some ⟨bv, 0, none⟩) 1 1], box bv 147 [.int .i64 g.key.1, .int .i64 g.key.2.1, .int .i64 g.key.2.2, .int .i64 g.val, .int .i64 g.lo, .int .i64 g.hi, .int .i64 g.known, .int .i64 g.no], box b8 3 [.int .i64 (d + 1)], box b7 3 [.int .i64 d], box b6 86 [.int .i64 k.1, .int .i64 k.2.1, .int .i64 k.2.2]] ++ F)⟩
    | some z => ⟨100, [(79, .int .i64 1), (10, .slice z.1 1 z.2), (78, .int .i64 1), (77, .slice (some ⟨bv, 0, none⟩) 1 1), (13, .pointer (some ⟨b13, 0, none⟩)), (7, .pointer (some ⟨b7, 0, none⟩)), (11, .int .i64 0)], [coll dd], M, ownS 3 1 z.1 1 z.2 [.int .i64 (max g.val (-1))] :: defR dd :: ([box b13 78 [.slice (some ⟨bt, 0, none⟩) 1 1], box bt 4 [.bool true], box b12 36 [.slice (some ⟨bv, 0, none⟩) 1 1], box bv 147 [.int .i64 g.key.1, .int .i64 g.key.2.1, .int .i64 g.key.2.2, .int .i64 g.val, .int .i64 g.lo, .int .i64 g.hi, .int .i64 g.known, .int .i64 g.no], box b8 3 [.int .i64 (d + 1)], box b7 3 [.int .i64 d], box b6 86 [.int .i64 k.1, .int .i64 k.2.1, .int .i64 k.2.2]] ++ F)⟩)
    (fun y => match y with | none => True | some z => z.2 ≤ 9223372036854775807) (fun y => match y with | none => 1 | some _ => 0) none trivial hsQ (fun y hy => ?_)
   cases y with
   | none =>
    dsimp only
    (repeat (first | ((with_reducible refine Tr.step rfl ?_); (first | (refine xmQ ?_) | (refine xaQ ?_) | ((with_reducible refine Knd.load ?_); (first | (refine xlQ ?_) | (refine xwQ ?_))) | (refine xfQ ?_) | ((with_reducible refine Knd.max ?_); (refine Exec.stab rfl (Stab.max2 rfl rfl) rfl ?_)) | (refine xiQ ?_) | (refine xWQ ?_) | ((with_reducible refine Knd.alloc ?_); (refine Exec.alloc (tysOk.get rfl) rfl rfl (fun b => ?_))) | ((with_reducible refine Knd.indexAddr ?_); (first | (refine Exec.stab rfl (Stab.indexB0 rfl rfl (tysOk.get rfl) rfl (tysOk.get rfl) rfl (by omega) (by omega)) rfl ?_) | (refine Exec.stab rfl (Stab.indexB rfl rfl (tysOk.get rfl) rfl (tysOk.get rfl) rfl (by omega) (by omega)) rfl ?_))) | ((with_reducible refine Knd.buildSlice ?_); (refine Exec.buildSlice (tysOk.get rfl) rfl (tysOk.get rfl) rfl rfl rfl rfl rfl (by repeat (first | exact BuildP.nil | ((apply BuildP.one); (rfl); (rfl); (first | rfl | assumption); (repeat (first | exact SetL.z | apply SetL.s))))) rfl (fun b => ?_))))) | (with_reducible first | apply Tr.next | apply Tr.seq | apply Tr.region | apply Tr.nil | apply Tr.skip | apply Tr.block) | (refine Tr.cond_bt rfl (by (with_reducible rfl)) ?_) | (refine Tr.cond_t rfl (by first | (with_reducible assumption) | omega) ?_)))
    refine Tr.own_nil 3 1 ?_
    ((refine Tr.step rfl ?_))
    refine Exec.append (news := [.int .i64 (max g.val (-1))]) rfl rfl (tysOk.get rfl) rfl (tysOk.get rfl) rfl rfl rfl rfl (by repeat (first | exact Del.here | apply Del.there)) (Src.box (by repeat (first | exact Has.here | apply Has.there))) rfl (by intro u hu; simp at hu; subst hu; rfl) (by omega) (by omega) rfl (fun A3 c3 hc3 => ?_)
    refine gvQ (r := box _ 3 [.int .i64 (max g.val (-1))]) ?_
    refine gvQ (r := box _ 147 _) ?_
    (repeat (first | ((with_reducible refine Tr.step rfl ?_); (first | (refine xmQ ?_) | (refine xaQ ?_) | (refine xdQ ?_))) | (with_reducible first | apply Tr.next | apply Tr.region | apply Tr.nil | apply Tr.in_normal)))
    exact Tr.again (some (A3, c3)) hc3 (by simp) hsQ
   | some z =>
    obtain ⟨A3, c3⟩ := z
    dsimp only at hy ⊢
    (refine rQ ?_)
    refine Tr.cut (α := Unit) (fun _ => ⟨100, [(10, .slice A3 1 c3), (11, .int .i64 d)], [coll dd], M, ownS 3 1 A3 1 c3 [.int .i64 (max g.val (-1))] :: defR dd :: ([box b13 78 [.slice (some ⟨bt, 0, none⟩) 1 1], box bt 4 [.bool true], box b12 36 [.slice (some ⟨bv, 0, none⟩) 1 1], box bv 147 [.int .i64 g.key.1, .int .i64 g.key.2.1, .int .i64 g.key.2.2, .int .i64 g.val, .int .i64 g.lo, .int .i64 g.hi, .int .i64 g.known, .int .i64 g.no], box b8 3 [.int .i64 (d + 1)], box b7 3 [.int .i64 d], box b6 86 [.int .i64 k.1, .int .i64 k.2.1, .int .i64 k.2.2]] ++ F)⟩) (fun _ => True) ?_ (fun _ _ => ?_)
    ·(((apply Tr.draw); (kernel_rfl)); (refine tkQ 0 (hB := by exact fun _ h => h) (s := by exact Stab.move rfl) ?_); (refine tkQ 1 (s := by exact slQ) ?_); (refine tkQ 2 (s := by exact Stab.assign rfl) ?_); (refine tkQ 3 (s := by exact Stab.assign rfl) ?_); (refine TrA.done (by kernel_rfl) ?_))
     exact Tr.land () trivial hsQ
    refine pbQ (r := ownS 3 1 A3 _ _ _) (fun M9 hm9 hok9 => ?_)
    have hI : Ints M9 (.slice A3 [(max g.val (-1))].length c3) [(max g.val (-1))] := Ints.ofOwn hok9 rfl hy
    (repeat (first | (with_reducible first | apply Tr.next | apply Tr.ret)))
    (refine Tr.doneM [_] rfl (by first | exact .inl rfl | exact .inr rfl) rfl (List.Perm.refl _) (by repeat (first | exact RVs.nil | (apply RVs.cons; (exact RV.tmp rfl)))) (by first | exact Mem.le.refl _ | assumption) (by exact ⟨[_, _, _, _, _, _, _], rfl⟩) ⟨rfl, ?_⟩)
    refine ⟨_, _, rfl, ?_⟩
    rw [show (valOf (some g)).getD (-1) = max g.val (-1) by
     unfold valOf
     by_cases h4 : g.val < 0
     ·simp [h4]; omega
     ·simp [h4]; omega]
    exact hI
 ·rintro c ⟨h, -⟩
  cases h
end Go.Proofs.YtmikfjcdgkopkaaGreat

/-
 Facts: the contract of Alike, for reads of one day.
 Conditions: none.
-/
namespace Go.Proofs.YtmikfjcdgkopkaaGreat
open Go Bf
attribute [local irreducible] Tr Exec Stab HasTy Go.Addr.add IntKind.wrap
set_option maxHeartbeats 16000000 in
set_option maxRecDepth 20000 in
theorem alike_fn (M : Mem) (A : Option Addr) (c : Nat) (l : List Fc) (h : SlOf 8 RFc M (.slice A l.length c) l) (Ad : Option Addr) (cd : Nat) (rd : List Rd) (hd : SlOf 5 RRd M (.slice Ad rd.length cd) rd) (hr : ∀ y ∈ rd, (0 ≤ y.2.1 ∧ y.2.1 < 1024) ∧ y.2.2 = y.2.1 + 1) (s t : Int) :
  Fn0 Tryz.prog 27 [.slice A l.length c, .slice Ad rd.length cd, .int .i64 s, .int .i64 t] M (fun r _ => ∃ q : Bool, r = .bool q ∧ (q = true → ∀ y ∈ rd, valF l y.1 y.2.1 s = valF l y.1 y.2.1 t)) := by
 have hdl := hd.len_le
 refine Fn.intro Tryz.func27 rfl rfl Tryz.ntmps27 rfl fun E F => ?_
 (repeat (first | ((with_reducible refine Tr.step rfl ?_); (first | (refine xmQ ?_) | (refine xaQ ?_) | (refine xnQ ?_))) | (with_reducible first | apply Tr.next | apply Tr.seq | apply Tr.region | apply Tr.nil | apply Tr.block)))
 refine Tr.loop (α := Nat × Mem) (fun y => ⟨50, [(17, .int .i64 (y.1 : Int)), (16, .int .i64 rd.length), (15, .slice Ad rd.length cd), (0, .slice A l.length c), (2, .int .i64 s), (3, .int .i64 t)], [], y.2, ([] ++ F)⟩)
  (fun y => y.1 ≤ rd.length ∧ Mem.le M y.2 ∧ ∀ x ∈ rd.take y.1, valF l x.1 x.2.1 s = valF l x.1 x.2.1 t) (fun y => rd.length - y.1) (0, M) ⟨Nat.zero_le _, Mem.le.refl _, by simp⟩ hsQ (fun y hy => ?_)
 obtain ⟨i, M1⟩ := y
 obtain ⟨hi, hm1, hall⟩ := hy
 dsimp only at hi hm1 hall ⊢
 by_cases hlt : i < rd.length
 ·obtain ⟨y, hy⟩ := get_of_lt hlt
  obtain ⟨hA, ch, hat, rfl⟩ := (hd.mono RRd.mono hm1).elem hy
  obtain ⟨⟨k1, k2, k3⟩, d, d'⟩ := y
  obtain ⟨hd1, hd2⟩ := hr _ (List.mem_of_getElem? hy)
  dsimp only at hd1 hd2
  subst hd2
  simp only [rdC] at hat
  (repeat (first | ((with_reducible refine Tr.step rfl ?_); (first | (refine xmQ ?_) | ((with_reducible refine Knd.load ?_); (first | (refine xlQ ?_) | (refine Exec.stab rfl (Stab.loadMA rfl (tysOk.get rfl) rfl (by assumption) (by first | rfl | assumption)) rfl ?_) | (refine Exec.stab rfl (Stab.loadP rfl (tysOk.get rfl) rfl (by repeat (first | exact Has.here | apply Has.there)) (by repeat (first | exact TakeL.z | apply TakeL.s))) rfl ?_))) | (refine xfQ ?_) | (refine xiQ ?_) | (refine xWQ ?_) | ((with_reducible refine Knd.alloc ?_); (refine Exec.alloc (tysOk.get rfl) rfl rfl (fun b => ?_))) | (refine xxQ ?_))) | (with_reducible first | apply Tr.next | apply Tr.seq | apply Tr.region | apply Tr.nil | apply Tr.skip | apply Tr.block) | (refine Tr.cond_t rfl (by first | (with_reducible assumption) | omega) ?_)))
  ((refine Tr.step rfl ?_)); refine Exec.call0 rfl (values_fn M1 A c l (k1, k2, k3) d s (h.mono RFc.mono hm1) hd1) rfl ?_
  rintro _ M2 hm2 ⟨B1, c1, rfl, t1⟩
  (repeat (first | ((with_reducible refine Tr.step rfl ?_); (first | (refine xmQ ?_) | (refine xaQ ?_) | ((with_reducible refine Knd.load ?_); (first | (refine xlQ ?_) | (refine Exec.stab rfl (Stab.loadP rfl (tysOk.get rfl) rfl (by repeat (first | exact Has.here | apply Has.there)) (by repeat (first | exact TakeL.z | apply TakeL.s))) rfl ?_))) | (refine xfQ ?_) | ((with_reducible refine Knd.extract ?_); (refine Exec.stab rfl (Stab.extract rfl rfl) rfl ?_)))) | (with_reducible first | apply Tr.next | apply Tr.seq | apply Tr.region | apply Tr.nil)))
  ((refine Tr.step rfl ?_)); refine Exec.call0 rfl (values_fn M2 A c l (k1, k2, k3) d t (h.mono RFc.mono (hm1.trans hm2)) hd1) rfl ?_
  rintro _ M3 hm3 ⟨B2, c2, rfl, t2⟩
  (repeat (first | ((with_reducible refine Tr.step rfl ?_); (first | (refine xmQ ?_) | (refine xaQ ?_) | ((with_reducible refine Knd.extract ?_); (refine Exec.stab rfl (Stab.extract rfl rfl) rfl ?_)))) | (with_reducible first | apply Tr.next | apply Tr.seq | apply Tr.region | apply Tr.nil)))
  ((refine Tr.step rfl ?_)); refine Exec.call0 rfl (equal_fn M3 [valF l (k1, k2, k3) d s] [valF l (k1, k2, k3) d t] B1 B2 c1 c2 (t1.mono RI.mono hm3) t2) rfl ?_
  rintro _ _ hm4 ⟨⟨q, rfl, hq⟩, rfl⟩
  have hm01 : Mem.le M M3 := hm1.trans (hm2.trans hm3)
  cases q
  ·(refine rQ ?_)
   (refine dnQ (hL := by exact ⟨[_], rfl⟩) ⟨rfl, ?_⟩)
   exact ⟨false, rfl, by simp⟩
  ·(refine rQ ?_)
   refine gvQ (r := box _ 88 _) ?_
   refine Tr.again (i + 1, M3) ⟨by simp only; omega, hm01, fun x hx => ?_⟩ (by simp only; omega) hsQ
   simp only at hx
   rw [List.take_add_one, hy] at hx
   rcases List.mem_append.1 hx with hx | hx
   ·exact hall x hx
   ·simp at hx
    subst hx
    have := hq.1 rfl
    simpa using this
 have ei : i = rd.length := by omega
 subst ei
 rw [List.take_length] at hall
 (refine rQ ?_)
 (refine dnQ (hL := by exact ⟨[], rfl⟩) ⟨rfl, ?_⟩)
 exact ⟨true, rfl, fun _ => hall⟩
end Go.Proofs.YtmikfjcdgkopkaaGreat

/-
 Promises: the law PromisesReads.
 Conditions: none.
-/
namespace Go.Proofs.YtmikfjcdgkopkaaGreat
open Go Bf
attribute [local irreducible] Tr Exec Stab HasTy Go.Addr.add IntKind.wrap
theorem read_day {w : Wd} {s : List Sp} {r : List Rq} (h : ∀ x ∈ r, okRq x) : ∀ y ∈ readsF w s r, (0 ≤ y.2.1 ∧ y.2.1 < 1024) ∧ y.2.2 = y.2.1 + 1 := fun y hy => by
 obtain ⟨x, -, z, hz, -, rfl⟩ := mem_readsF.1 hy
 have := (h z hz).2.2.2.1
 exact ⟨⟨this.1, by have := this.2; show z.due < 1024; omega⟩, rfl⟩
theorem atF_nonneg {l : List Fc} {k : Ky} {d t v : Int} (h : atF l k d t = some v) : 0 ≤ v := by
 have e : atF l k d t = valOf (lastF l k d t) := rfl
 rw [e] at h
 unfold valOf at h
 split at h
 ·cases h
 ·rename_i f _
  by_cases h2 : f.val < 0
  ·rw [if_pos h2] at h; cases h
  ·rw [if_neg h2] at h; cases h; omega
theorem alike_of {w : Wd} {l : List Rd} {s t : Int} (h : ∀ y ∈ l, valF w.facts y.1 y.2.1 s = valF w.facts y.1 y.2.1 t) : alikeF w l s t := fun y hy => by
 have e := h y hy
 unfold valF at e
 unfold refusedF
 cases h1 : atF w.facts y.1 y.2.1 s with
 | none =>
  cases h2 : atF w.facts y.1 y.2.1 t with
  | none => rfl
  | some b =>
   rw [h1, h2] at e
   have := atF_nonneg h2
   simp at e
   omega
 | some a =>
  cases h2 : atF w.facts y.1 y.2.1 t with
  | none =>
   rw [h1, h2] at e
   have := atF_nonneg h1
   simp at e
   omega
  | some b =>
   rw [h1, h2] at e
   simp at e
   rw [e]
set_option maxHeartbeats 32000000 in
set_option maxRecDepth 20000 in
theorem readslaw_fn (M : Mem) (ws : List Value) (w : Wd) (hw : RWd M ws w) (v : Value) (k : Bp) (hk : RBp M v k) (r : Rq) (t : Int) :
  Fn0 Tryz.prog 8 [.agg ws.toArray, v, .agg #[.int .i64 r.no, .int .i64 r.item, .int .i64 r.cust, .int .i64 r.due, .int .i64 r.shelf, .int .i64 r.amount], .int .i64 t] M (fun v _ => v = .bool true) := by
 have h11 := hw.len
 obtain ⟨FA, fc, hfa, hfs⟩ := hw.fa
 obtain ⟨As, cs, Ar, cr, Af, cf, Ad, cd, rfl, h1, h2, h3, h4⟩ := id hk
 have hfc : k.fits.length ≤ 9223372036854775807 := h3.len_le
 refine Fn.intro Tryz.func8 rfl rfl Tryz.ntmps8 rfl fun E F => ?_
 (repeat (first | ((with_reducible refine Tr.step rfl ?_); (first | (refine xaQ ?_) | ((with_reducible refine Knd.box ?_); (refine Exec.box rfl rfl (fun b => ?_))))) | (with_reducible first | apply Tr.next | apply Tr.seq | apply Tr.region | apply Tr.nil)))
 rename_i b4 b5
 generalize b = b6
 ((refine Tr.step rfl ?_)); refine Exec.call0 rfl (sane31_fn M) rfl ?_
 rintro _ M1 hm1 rfl
 (repeat (first | ((with_reducible refine Tr.step rfl ?_); (first | ((with_reducible refine Knd.load ?_); (first | (refine xwQ ?_) | (refine Exec.stab rfl (Stab.loadW rfl (tysOk.get rfl) rfl (by repeat (first | exact Has.here | apply Has.there)) (by assumption)) rfl ?_))) | ((with_reducible refine Knd.unOp ?_); (refine Exec.stab rfl (Stab.not rfl) rfl ?_)))) | (with_reducible first | apply Tr.next | apply Tr.seq | apply Tr.region | apply Tr.nil | apply Tr.skip) | (refine Tr.cond_bf rfl (by first | (with_reducible rfl) | (with_reducible exact Bool.not_true)) ?_)))
 ((refine Tr.step rfl ?_)); refine Exec.call0 rfl (few31_fn M1 ws w (hw.mono hm1) _ k (hk.mono hm1)) rfl ?_
 rintro _ _ hm ⟨⟨q, rfl, hq⟩, rfl⟩
 cases q
 ·(refine rQ ?_)
  (refine dnQ (hL := by exact ⟨[_, _, _], rfl⟩) ⟨rfl, ?_⟩)
  rfl
 clear hq
 (repeat (first | ((with_reducible refine Tr.step rfl ?_); (first | (refine xmQ ?_) | ((with_reducible refine Knd.unOp ?_); (refine Exec.stab rfl (Stab.not rfl) rfl ?_)))) | ((refine Tr.guard_l rfl rfl rfl (by (with_reducible exact Bool.not_true)) ?_); (with_reducible refine Knd.load ?_); (first | (refine xwQ ?_) | (refine Exec.stab rfl (Stab.loadW rfl (tysOk.get rfl) rfl (by repeat (first | exact Has.here | apply Has.there)) (by assumption)) rfl ?_)))))
 ((refine Tr.guard_l rfl rfl rfl (by (with_reducible exact Bool.not_true)) ?_)); refine Exec.call0 rfl (check_fn' M1 ws w (hw.mono hm1) _ k (hk.mono hm1) hfc) rfl ?_
 rintro _ M2 hm2 rfl
 have hm02 := hm1.trans hm2
 by_cases hok : okB w k
 rotate_left
 ·rw [chkE, if_neg hok]
  (refine rQ ?_)
  (refine dnQ (hL := by exact ⟨[_, _, _], rfl⟩) ⟨rfl, ?_⟩)
  rfl
 rw [chkE, if_pos hok]
 (repeat (first | ((with_reducible refine Tr.step rfl ?_); (first | (refine xmQ ?_) | ((with_reducible refine Knd.pick ?_); (refine Exec.stab rfl (Stab.pick_f rfl (by (with_reducible exact Bool.not_true)) rfl) rfl ?_)))) | ((refine Tr.guard_l rfl rfl rfl (by (with_reducible exact Bool.not_true)) ?_); (with_reducible refine Knd.binOp ?_); (refine xiQ ?_)) | ((refine Tr.guard_y' rfl rfl rfl (by (with_reducible exact (not_not_intro rfl))) ?_); (first | (refine xmQ ?_) | ((with_reducible refine Knd.load ?_); (first | (refine xlQ ?_) | (refine Exec.stab rfl (Stab.load rfl (tysOk.get rfl) rfl (by repeat (first | exact Has.here | apply Has.there)) (by assumption)) rfl ?_))) | (refine xfQ ?_)))))
 ((refine Tr.guard_y' rfl rfl rfl (by (with_reducible exact (not_not_intro rfl))) ?_)); refine Exec.call0 rfl (alike_fn M2 FA fc w.facts (hfs.mono RFc.mono hm02) Ad cd k.rds (h4.mono RRd.mono hm02) (by rw [← hok.2.2.1.2]; exact read_day hok.2.1.2.2) k.known t) rfl ?_
 rintro _ M3 hm3 ⟨q, rfl, hq⟩
 have hm03 := hm02.trans hm3
 cases q
 ·(refine rQ ?_)
  (refine dnQ (hL := by exact ⟨[_, _, _], rfl⟩) ⟨rfl, ?_⟩)
  rfl
 have hal := alike_of (hq rfl)
 have hok2 : okB w (atTime k t) := atTime_ok hok hal
 (repeat (first | ((with_reducible refine Tr.step rfl ?_); (first | (refine xmQ ?_) | ((with_reducible refine Knd.load ?_); (first | (refine xwQ ?_) | (refine Exec.stab rfl (Stab.loadW rfl (tysOk.get rfl) rfl (by repeat (first | exact Has.here | apply Has.there)) (by assumption)) rfl ?_))) | (refine xfQ ?_) | ((with_reducible refine Knd.pick ?_); (refine Exec.stab rfl (Stab.pick_fd rfl (by (with_reducible exact (not_not_intro rfl))) rfl) rfl ?_)) | ((with_reducible refine Knd.store ?_); (first | (refine xSQ ?_) | (refine xWQ ?_))) | ((with_reducible refine Knd.alloc ?_); (refine Exec.alloc (tysOk.get rfl) rfl rfl (fun b => ?_))))) | (with_reducible first | apply Tr.next | apply Tr.seq | apply Tr.region | apply Tr.nil) | ((refine Tr.guard_y' rfl rfl rfl (by (with_reducible exact (not_not_intro rfl))) ?_); (with_reducible refine Knd.unOp ?_); (refine Exec.stab rfl (Stab.not rfl) rfl ?_)) | (with_reducible refine Tr.skip ?_) | (refine Tr.cond_bf rfl (by first | (with_reducible rfl) | (with_reducible exact Bool.not_true)) ?_)))
 generalize b = b9
 have hk2 : RBp M3 (.agg #[.int .i64 t, .slice As k.sups.length cs, .slice Ar k.reqs.length cr, .slice Af k.fits.length cf, .slice Ad k.rds.length cd]) (atTime k t) := ⟨As, cs, Ar, cr, Af, cf, Ad, cd, rfl, h1.mono RSpC.mono hm03, h2.mono RRqC.mono hm03, h3.mono RRowB.mono hm03, h4.mono RRd.mono hm03⟩
 ((refine Tr.step rfl ?_)); refine Exec.call0 rfl (check_fn' M3 ws w (hw.mono hm03) _ (atTime k t) hk2 hfc) rfl ?_
 rintro _ M4 hm4 rfl
 rw [chkE, if_pos hok2]
 have hm04 := hm03.trans hm4
 (repeat (first | ((with_reducible refine Tr.step rfl ?_); (first | ((with_reducible refine Knd.load ?_); (first | (refine xwQ ?_) | (refine Exec.stab rfl (Stab.loadW rfl (tysOk.get rfl) rfl (by repeat (first | exact Has.here | apply Has.there)) (by assumption)) rfl ?_))) | (refine xiQ ?_))) | (with_reducible first | apply Tr.next | apply Tr.seq | apply Tr.region | apply Tr.nil | apply Tr.skip) | (refine Tr.cond_f rfl (by (with_reducible exact (not_not_intro rfl))) ?_)))
 ((refine Tr.step rfl ?_)); refine Exec.call0 rfl (askA_fn M4 ws w (hw.mono hm04) _ k (hk.mono hm04) hfc r) rfl ?_
 rintro _ M5 hm5 ha1
 obtain ⟨x3, a3, o3, rfl, hx3, ho3, hp3⟩ := ha1.one
 have hm05 := hm04.trans hm5
 obtain ⟨u1, u2, u3, u4, u5, u6, u7, u8, rfl⟩ := hx3.lit
 obtain ⟨A3, ca3, B3, cb3, D3, cd3, rfl, p1, p2, p3⟩ := id ho3
 (repeat (first | ((with_reducible refine Tr.step rfl ?_); (first | (refine xmQ ?_) | (refine xaQ ?_) | ((with_reducible refine Knd.load ?_); (first | (refine xwQ ?_) | (refine Exec.stab rfl (Stab.loadW rfl (tysOk.get rfl) rfl (by repeat (first | exact Has.here | apply Has.there)) (by assumption)) rfl ?_))) | (refine xWQ ?_) | ((with_reducible refine Knd.alloc ?_); (refine Exec.alloc (tysOk.get rfl) rfl rfl (fun b => ?_))) | ((with_reducible refine Knd.extract ?_); (refine Exec.stab rfl (Stab.extract rfl rfl) rfl ?_)))) | (with_reducible first | apply Tr.next | apply Tr.seq | apply Tr.region | apply Tr.nil)))
 ((refine Tr.step rfl ?_)); refine Exec.call0 rfl (askA_fn M5 ws w (hw.mono hm05) _ (atTime k t) (hk2.mono (hm4.trans hm5)) hfc r) rfl ?_
 rintro _ M6 hm6 ha2
 obtain ⟨x4, a4, o4, rfl, hx4, ho4, hp4⟩ := ha2.one
 have hm06 := hm05.trans hm6
 obtain ⟨v1, v2, v3, v4, v5, v6, v7, v8, rfl⟩ := hx4.lit
 obtain ⟨A4, ca4, B4, cb4, D4, cd4, rfl, r1, r2, r3⟩ := id ho4
 rw [atTime_ask hok hal]
 (repeat (first | ((with_reducible refine Tr.step rfl ?_); (first | (refine xmQ ?_) | (refine xaQ ?_) | ((with_reducible refine Knd.load ?_); (first | (refine xlQ ?_) | (refine Exec.stab rfl (Stab.load rfl (tysOk.get rfl) rfl (by repeat (first | exact Has.here | apply Has.there)) (by assumption)) rfl ?_))) | (refine xfQ ?_) | (refine xiQ ?_) | (refine xWQ ?_) | ((with_reducible refine Knd.alloc ?_); (refine Exec.alloc (tysOk.get rfl) rfl rfl (fun b => ?_))) | ((with_reducible refine Knd.extract ?_); (refine Exec.stab rfl (Stab.extract rfl rfl) rfl ?_)))) | (with_reducible first | apply Tr.next | apply Tr.seq | apply Tr.region | apply Tr.nil | apply Tr.skip) | (refine Tr.cond_f rfl (by (with_reducible exact (not_not_intro rfl))) ?_)))
 have hrd : o3.rd = [] ∨ (askE w k r = 0 ∧ o3.rd = readsF w k.sups [r]) := by
  rcases hp3 with ⟨-, rfl⟩ | ⟨h0, -, al, -, rfl⟩ | ⟨h0, -, rfl⟩
  ·exact .inl rfl
  ·exact .inr ⟨h0, rfl⟩
  ·exact .inr ⟨h0, rfl⟩
 have hday : ∀ y ∈ o3.rd, (0 ≤ y.2.1 ∧ y.2.1 < 1024) ∧ y.2.2 = y.2.1 + 1 := by
  rcases hrd with e | ⟨h0, e⟩
  ·rw [e]; simp
  ·rw [e]
   exact read_day fun x hx => (askE_zero h0).2.2.2.2 x (by simp at hx; subst hx; simp)
 ((refine Tr.step rfl ?_)); refine Exec.call0 rfl (alike_fn M6 FA fc w.facts (hfs.mono RFc.mono hm06) D3 cd3 o3.rd (p3.mono RRd.mono hm6) hday k.known t) rfl ?_
 rintro _ M7 hm7 ⟨q, rfl, hq⟩
 have hm07 := hm06.trans hm7
 cases q
 ·(refine rQ ?_)
  (refine dnQ (hL := by exact ⟨[_, _, _, _, _, _, _, _], rfl⟩) ⟨rfl, ?_⟩)
  rfl
 have heq : o3 = o4 := by
  by_cases h0 : askE w k r = 0
  ·have e : o3.rd = readsF w k.sups [r] := by
    rcases hp3 with ⟨hn, -⟩ | ⟨-, -, al, -, rfl⟩ | ⟨-, -, rfl⟩
    ·exact absurd h0 hn
    ·rfl
    ·rfl
   have ha := alike_of (hq rfl)
   rw [e] at ha
   exact AnsP.time hok hal ha hp3 hp4
  ·have h0' : askE w (atTime k t) r ≠ 0 := by rw [atTime_ask hok hal]; exact h0
   rcases hp3 with ⟨-, rfl⟩ | ⟨h, -⟩ | ⟨h, -⟩
   ·rcases hp4 with ⟨-, rfl⟩ | ⟨h, -⟩ | ⟨h, -⟩
    ·rfl
    ·exact absurd h h0'
    ·exact absurd h h0'
   ·exact absurd h h0
   ·exact absurd h h0
 (refine rQ ?_)
 ((refine Tr.guard_l rfl rfl rfl (by (with_reducible exact Bool.not_true)) ?_)); refine Exec.call0 rfl (sameAn_fn M7 _ _ o3 o4 (ho3.mono (hm6.trans hm7)) (ho4.mono hm7)) rfl ?_
 rintro _ _ hm ⟨⟨q, rfl, hq2⟩, rfl⟩
 obtain rfl := hq2.2 heq
 (repeat (first | ((with_reducible refine Tr.step rfl ?_); (first | (refine xaQ ?_) | ((with_reducible refine Knd.pick ?_); (refine Exec.stab rfl (Stab.pick_f rfl (by (with_reducible exact Bool.not_true)) rfl) rfl ?_)))) | (with_reducible first | apply Tr.next | apply Tr.nil | apply Tr.ret)))
 (refine dnQ (hL := by exact ⟨[_, _, _, _, _, _, _, _], rfl⟩) ⟨rfl, ?_⟩)
 rfl
end Go.Proofs.YtmikfjcdgkopkaaGreat

