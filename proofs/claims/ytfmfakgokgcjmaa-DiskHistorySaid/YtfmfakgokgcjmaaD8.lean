/-
  The disk: the contracts of backward and of Read.
  Conditions: none.
-/
import Derived.Test.YtfmfakgokgcjmaaD7
import Derived.Test.YtfmfakgokgcjmaaBfFn
namespace Go.Proofs.Ytfmfakgokgcjmaa
open Go Bf
attribute [local irreducible] Tr Exec Stab HasTy Go.Addr.add IntKind.wrap
set_option maxHeartbeats 1000000 in
theorem backward_fn (M : Mem) (B : Option Addr) (n k : Nat) :
    Bf.Fn Try.prog 33 [.slice B n k] M [] (fun r M' A' => ∃ b, r = .func (.func 35) #[] #[.pointer (some ⟨b, 0, none⟩)] ∧ M = M' ∧ A' = [box b 23 [.slice B n k]]) := by
  refine Fn.intro Try.func33 rfl rfl Try.ntmps33 rfl fun E F => ?_
  repeat (first | ((with_reducible refine Tr.step rfl ?_); (first | ((with_reducible refine Knd.assign ?_); (refine Exec.stab rfl (Stab.assign rfl) rfl ?_)) | ((with_reducible refine Knd.box ?_); (first | (refine Exec.box rfl rfl (fun b => ?_)) | (refine Exec.box1 rfl (by first | rfl | assumption) rfl (fun b => ?_)))))) | (with_reducible refine Tr.next ?_) | (with_reducible refine Tr.seq ?_) | (with_reducible refine Tr.region ?_) | (with_reducible refine Tr.nil ?_))
  refine Tr.step rfl ?_
  refine Exec.stab rfl (Stab.makeFunc rfl rfl) rfl ?_
  repeat (first | ((with_reducible refine Tr.step rfl ?_); (((with_reducible refine Knd.assign ?_); (refine Exec.stab rfl (Stab.assign rfl) rfl ?_)))) | (with_reducible refine Tr.next ?_) | (with_reducible refine Tr.nil ?_) | (with_reducible refine Tr.ret ?_))
  refine Tr.doneA (A' := [box _ 23 [.slice B n k]]) (by first | exact .inl rfl | exact .inr rfl) rfl (by repeat (first | exact RVs.nil | (apply RVs.cons; (exact RV.tmp rfl)))) (Mem.le.refl _) ⟨fun _ h => h, fun h => h⟩ ⟨_, rfl, rfl, rfl⟩

set_option maxHeartbeats 1000000 in
theorem back1_fn (M : Mem) (B : Option Addr) (k l b : Nat) (p : List (Int × List UInt8)) (h2 : SlOf 2 RWr M (.slice B p.length k) p) (J : Nat → List Res → Prop) (Dn : List Res → Prop) (A A0 : List Res) (hJ : J p.length A0) (hA : (box b 23 [.slice B p.length k] :: A0).Perm A)
    (hy : ∀ i x A1 k1 A', p[i]? = some x → BSl M (.slice A1 x.2.length k1) x.2 → J (i + 1) A' → Yl Try.prog l [.agg #[.int .i64 x.1, .slice A1 x.2.length k1]] M A' (fun r M' A'' => M = M' ∧ ((r = .bool true ∧ J i A'') ∨ (r = .bool false ∧ Dn A'')))) :
    Bf.Fn Try.prog 35 [yv l, .pointer (some ⟨b, 0, none⟩)] M A (fun _ M' A' => M = M' ∧ (J 0 A' ∨ Dn A')) := by
  have l2 := h2.len_le
  refine Fn.intro Try.func35 rfl rfl Try.ntmps35 rfl fun E F => ?_
  refine Tr.perm (L' := box b 23 [.slice B p.length k] :: (A0 ++ F)) (hA.append_right F) ?_
  repeat (first | ((with_reducible refine Tr.step rfl ?_); (first | ((with_reducible refine Knd.assign ?_); (refine Exec.stab rfl (Stab.assign rfl) rfl ?_)) | ((with_reducible refine Knd.load ?_); ((refine Exec.stab rfl (Stab.load rfl (tysOk.get rfl) rfl (by repeat (first | exact Has.here | apply Has.there)) rfl) rfl ?_))) | ((with_reducible refine Knd.len ?_); (first | (refine Exec.stab rfl (Stab.len rfl (tysOk.get rfl) rfl) rfl ?_) | (refine Exec.stab rfl (Stab.lens rfl (tysOk.get rfl) rfl) rfl ?_))) | ((with_reducible refine Knd.binOp ?_); ((refine Exec.stab rfl (Stab.subi rfl rfl (by omega)) rfl ?_))))) | (with_reducible refine Tr.next ?_) | (with_reducible refine Tr.seq ?_) | (with_reducible refine Tr.region ?_) | (with_reducible refine Tr.nil ?_) | (with_reducible refine Tr.block ?_))
  refine Tr.loop (α := Nat × List Res) (fun m => ⟨18, [(3, .int .i64 ((m.1 : Int) - 1)), (0, yv l), (1, .pointer (some ⟨b, 0, none⟩))], [], M, box b 23 [.slice B p.length k] :: (m.2 ++ F)⟩) (fun m => m.1 ≤ p.length ∧ J m.1 m.2) (fun m => m.1) (p.length, A0) ⟨Nat.le_refl _, hJ⟩ (holds_sub (by repeat (first | exact SubFr.nil | refine SubFr.cons rfl ?_)) (by repeat (first | exact DropL.refl | apply DropL.skip))) (fun m hm => ?_)
  obtain ⟨m, A'⟩ := m
  obtain ⟨hm, hJm⟩ := hm
  simp only at hm hJm
  dsimp only
  cases m with
  | zero =>
    repeat (first | ((with_reducible refine Tr.step rfl ?_); (first | ((with_reducible refine Knd.move ?_); (refine Exec.stab rfl (Stab.move rfl) rfl ?_)) | ((with_reducible refine Knd.binOp ?_); ((refine Exec.stab rfl (Stab.int rfl rfl rfl) rfl ?_))))) | (with_reducible refine Tr.next ?_) | (with_reducible refine Tr.seq ?_) | (with_reducible refine Tr.region ?_) | (with_reducible refine Tr.nil ?_) | (with_reducible refine Tr.exit ?_) | (with_reducible refine Tr.then_exit ?_) | ((with_reducible refine Tr.in_exit ?_ ?_); (exact rfl)) | (refine Tr.cond_f rfl (by first | assumption | omega) ?_))
    refine Tr.doneA (A' := A') (by first | exact .inl rfl | exact .inr rfl) rfl (by repeat (exact RVs.nil)) (Mem.le.refl _) ⟨fun _ h => List.mem_cons_of_mem _ h, fun h => by rw [List.flatMap_cons] at h; exact (List.nodup_append.1 h).2.1⟩ ⟨rfl, .inl hJm⟩
  | succ i =>
    obtain ⟨x, hx⟩ := get_of_lt (show i < p.length by omega)
    obtain ⟨hB, ch, hat, A1, k1, rfl, hb⟩ := h2.elem hx
    have e : ((i + 1 : Nat) : Int) - 1 = i := by omega
    rw [e]
    repeat (first | ((with_reducible refine Tr.step rfl ?_); (first | ((with_reducible refine Knd.move ?_); (refine Exec.stab rfl (Stab.move rfl) rfl ?_)) | ((with_reducible refine Knd.load ?_); (first | (refine Exec.stab rfl (Stab.load rfl (tysOk.get rfl) rfl (by repeat (first | exact Has.here | apply Has.there)) rfl) rfl ?_) | (refine Exec.stab rfl (Stab.loadMA rfl (tysOk.get rfl) rfl (by assumption) rfl) rfl ?_))) | ((with_reducible refine Knd.binOp ?_); ((refine Exec.stab rfl (Stab.int rfl rfl rfl) rfl ?_))) | ((with_reducible refine Knd.indexAddr ?_); ((refine Exec.stab rfl (Stab.indexAddr rfl rfl (tysOk.get rfl) rfl (tysOk.get rfl) rfl (by omega) (by omega) (by first | rfl | assumption)) rfl ?_))))) | (with_reducible refine Tr.next ?_) | (with_reducible refine Tr.seq ?_) | (with_reducible refine Tr.region ?_) | (with_reducible refine Tr.nil ?_) | (with_reducible refine Tr.skip ?_) | (with_reducible refine Tr.block ?_) | (refine Tr.cond_t rfl (by first | assumption | omega) ?_))
    ((refine Tr.step rfl ?_))
    refine Exec.yield (F := box b 23 [.slice B p.length k] :: F) rfl rfl (hy i x A1 k1 A' hx hb hJm) List.perm_middle rfl ?_
    rintro v _ A'' - ⟨rfl, ⟨rfl, hJ2⟩ | ⟨rfl, hD⟩⟩
    · refine Tr.perm (L' := box b 23 [.slice B p.length k] :: (A'' ++ F)) List.perm_middle.symm ?_
      repeat (first | ((with_reducible refine Tr.step rfl ?_); (first | ((with_reducible refine Knd.move ?_); (refine Exec.stab rfl (Stab.move rfl) rfl ?_)) | ((with_reducible refine Knd.assign ?_); (refine Exec.stab rfl (Stab.assign rfl) rfl ?_)) | ((with_reducible refine Knd.binOp ?_); ((refine Exec.stab rfl (Stab.subi rfl rfl (by omega)) rfl ?_))) | ((with_reducible refine Knd.unOp ?_); (first | (refine Exec.stab rfl (Stab.notd rfl) rfl ?_) | (refine Exec.stab rfl (Stab.not rfl) rfl ?_) | (refine Exec.stab rfl (Stab.neg rfl (by omega)) rfl ?_))))) | (with_reducible refine Tr.next ?_) | (with_reducible refine Tr.region ?_) | (with_reducible refine Tr.nil ?_) | (with_reducible refine Tr.skip ?_) | (with_reducible refine Tr.in_normal ?_) | (refine Tr.cond_bf rfl (by first | (with_reducible rfl) | assumption | (with_reducible exact Bool.not_true) | (with_reducible exact Bool.not_false)) ?_))
      refine Tr.again (i, A'') ⟨by simp only; omega, hJ2⟩ (by simp only; omega) (holds_sub (by repeat (first | exact SubFr.nil | refine SubFr.cons rfl ?_)) (by repeat (first | exact DropL.refl | apply DropL.skip)))
    · refine Tr.perm (L' := box b 23 [.slice B p.length k] :: (A'' ++ F)) List.perm_middle.symm ?_
      repeat (first | ((with_reducible refine Tr.step rfl ?_); (((with_reducible refine Knd.unOp ?_); (first | (refine Exec.stab rfl (Stab.notd rfl) rfl ?_) | (refine Exec.stab rfl (Stab.not rfl) rfl ?_) | (refine Exec.stab rfl (Stab.neg rfl (by omega)) rfl ?_))))) | (with_reducible refine Tr.next ?_) | (with_reducible refine Tr.nil ?_) | (with_reducible refine Tr.ret ?_) | (with_reducible refine Tr.then_ret ?_) | (with_reducible refine Tr.in_ret ?_) | (refine Tr.cond_bt rfl (by first | (with_reducible rfl) | assumption | (with_reducible exact Bool.not_true) | (with_reducible exact Bool.not_false)) ?_))
      refine Tr.doneA (A' := A'') (by first | exact .inl rfl | exact .inr rfl) rfl (by repeat (exact RVs.nil)) (Mem.le.refl _) ⟨fun _ h => List.mem_cons_of_mem _ h, fun h => by rw [List.flatMap_cons] at h; exact (List.nodup_append.1 h).2.1⟩ ⟨rfl, .inr hD⟩

theorem lastW_skip {p : List (Int × List UInt8)} {at_ : Int} {s : List UInt8} : (∀ (i : Nat) (x : Int × List UInt8), p[i]? = some x → x.1 ≠ at_) → lastW p at_ s = s := by
  induction p generalizing s with
  | nil => intro _; rfl
  | cons w p ih =>
    intro h
    have h0 := h 0 w rfl
    show lastW p at_ (if w.1 = at_ then w.2 else s) = s
    rw [if_neg h0]
    exact ih fun i x hx => h (i + 1) x (by simpa using hx)
theorem lastW_hit {p : List (Int × List UInt8)} {at_ : Int} {s : List UInt8} {i : Nat} {x : Int × List UInt8} (hx : p[i]? = some x) (he : x.1 = at_) (h : ∀ (j : Nat) (y : Int × List UInt8), i < j → p[j]? = some y → y.1 ≠ at_) : lastW p at_ s = x.2 := by
  have e : p = p.take (i + 1) ++ p.drop (i + 1) := (List.take_append_drop _ _).symm
  have e1 : lastW p at_ s = lastW (p.drop (i + 1)) at_ (lastW (p.take (i + 1)) at_ s) := by
    conv => lhs; rw [e]
    rw [lastW, List.foldl_append]; rfl
  rw [e1, lastW_skip, lastW_take hx, if_pos he]
  intro j y hy
  rw [List.getElem?_drop] at hy
  exact h _ y (by omega) hy

/-- what Read answers: a whole sector -/
def rdF' (d : Dsk) (at_ : Int) : List UInt8 × Int :=
  if runs d ∧ 0 ≤ at_ ∧ at_ < d.sec.length then (pad (lastW d.pen at_ (d.sec.getD at_.toNat [])), 0) else ([], 440)
set_option maxHeartbeats 1000000 in
theorem read_fn (M : Mem) (v : Value) (d : Dsk) (at_ : Int) (h : RDisk M v d) :
    Fn0 Try.prog 21 [v, .int .i64 at_] M (fun r M' => RBPair M' r (rdF' d at_)) := by
  have hD := h
  obtain ⟨A, c, B, k, rfl, h1, h2⟩ := h
  have l1 := h1.len_le
  have l2 := h2.len_le
  refine Fn.introM Try.func21 rfl rfl Try.ntmps21 rfl fun E F => ?_
  repeat (first | ((with_reducible refine Tr.step rfl ?_); (first | ((with_reducible refine Knd.assign ?_); (refine Exec.stab rfl (Stab.assign rfl) rfl ?_)) | ((with_reducible refine Knd.load ?_); ((refine Exec.stab rfl (Stab.loadW rfl (tysOk.get rfl) rfl (by repeat (first | exact Has.here | apply Has.there)) rfl) rfl ?_))) | ((with_reducible refine Knd.box ?_); (first | (refine Exec.box rfl rfl (fun b => ?_)) | (refine Exec.box1 rfl (by first | rfl | assumption) rfl (fun b => ?_)))))) | (with_reducible refine Tr.next ?_) | (with_reducible refine Tr.seq ?_) | (with_reducible refine Tr.region ?_) | (with_reducible refine Tr.nil ?_))
  by_cases hk : runs d
  · ((refine Tr.step rfl ?_)); refine Exec.call0 rfl (running_y M _ d hD hk) rfl ?_
    rintro _ _ _ ⟨rfl, rfl⟩
    repeat (first | ((with_reducible refine Tr.step rfl ?_); (first | ((with_reducible refine Knd.move ?_); (refine Exec.stab rfl (Stab.move rfl) rfl ?_)) | ((with_reducible refine Knd.assign ?_); (refine Exec.stab rfl (Stab.assign rfl) rfl ?_)) | ((with_reducible refine Knd.load ?_); (first | (refine Exec.stab rfl (Stab.load rfl (tysOk.get rfl) rfl (by repeat (first | exact Has.here | apply Has.there)) rfl) rfl ?_) | (refine Exec.stab rfl (Stab.loadW rfl (tysOk.get rfl) rfl (by repeat (first | exact Has.here | apply Has.there)) rfl) rfl ?_))) | ((with_reducible refine Knd.binOp ?_); ((refine Exec.stab rfl (Stab.int rfl rfl rfl) rfl ?_))))) | (with_reducible refine Tr.next ?_) | (with_reducible refine Tr.seq ?_) | (with_reducible refine Tr.region ?_) | (with_reducible refine Tr.nil ?_) | (with_reducible refine Tr.skip ?_) | (refine Tr.cond_f rfl (by first | assumption | omega) ?_))
    ((refine Tr.step rfl ?_)); refine Exec.call0 rfl (index_fn M _ d at_ hD) rfl ?_
    rintro _ _ _ ⟨rfl, rfl⟩
    by_cases hi : 0 ≤ at_ ∧ at_ < d.sec.length
    · obtain ⟨hi1, hi2⟩ := hi
      obtain ⟨m, rfl⟩ : ∃ m : Nat, at_ = (m : Int) := ⟨at_.toNat, by omega⟩
      obtain ⟨x, hx⟩ := get_of_lt (show m < d.sec.length by omega)
      obtain ⟨hA, ch, hat, A1, k1, rfl, hb⟩ := h1.elem hx
      have hs : x.length = 128 := hk.1.2.2.2.1 x (getElem_mem' hx)
      have hw : ∀ w ∈ d.pen, w.2.length = 128 := fun w h => (hk.1.2.2.2.2.1 w h).2.2
      have hdx : d.sec.getD m [] = x := by simp [hx]
      repeat (first | ((with_reducible refine Tr.step rfl ?_); (first | ((with_reducible refine Knd.load ?_); (first | (refine Exec.stab rfl (Stab.load rfl (tysOk.get rfl) rfl (by repeat (first | exact Has.here | apply Has.there)) rfl) rfl ?_) | (refine Exec.stab rfl (Stab.loadM rfl (tysOk.get rfl) rfl (by assumption)) rfl ?_))) | ((with_reducible refine Knd.fieldAddr ?_); ((refine Exec.stab rfl (Stab.fieldZ rfl (tysOk.get rfl) rfl rfl (tysOk.get rfl) rfl) rfl ?_))) | ((with_reducible refine Knd.unOp ?_); (first | (refine Exec.stab rfl (Stab.notd rfl) rfl ?_) | (refine Exec.stab rfl (Stab.not rfl) rfl ?_) | (refine Exec.stab rfl (Stab.neg rfl (by omega)) rfl ?_))) | ((with_reducible refine Knd.store ?_); ((refine Exec.store rfl rfl (tysOk.get rfl) rfl (by first | rfl | assumption) (by repeat (first | exact Upd.here | apply Upd.there)) (by repeat (first | exact SetL.z | apply SetL.s)) ?_))) | ((with_reducible refine Knd.alloc ?_); (first | (refine Exec.alloc (tysOk.get rfl) rfl rfl (fun b => ?_)) | (refine Exec.alloc1 (tysOk.get rfl) rfl rfl rfl (fun b => ?_)))) | ((with_reducible refine Knd.indexAddr ?_); ((refine Exec.stab rfl (Stab.indexAddr rfl rfl (tysOk.get rfl) rfl (tysOk.get rfl) rfl (by omega) (by omega) (by first | rfl | assumption)) rfl ?_))))) | (with_reducible refine Tr.next ?_) | (with_reducible refine Tr.seq ?_) | (with_reducible refine Tr.region ?_) | (with_reducible refine Tr.nil ?_) | (with_reducible refine Tr.skip ?_) | (refine Tr.cond_f rfl (by first | assumption | omega) ?_))
      ((refine Tr.step rfl ?_))
      refine Exec.call (A := []) rfl (backward_fn M B d.pen.length k) (List.Perm.refl _) rfl ?_
      rintro _ _ _ - ⟨bb, rfl, rfl, rfl⟩
      repeat (first | (with_reducible refine Tr.next ?_) | (with_reducible refine Tr.nil ?_) | (with_reducible refine Tr.block ?_))
      rename_i b2 b3 e1 e2
      generalize b = b0
      refine Tr.rangeFunc' (A := [box bb 23 [.slice B d.pen.length k], box b0 35 [.slice A1 x.length k1], box b3 3 [.int .i64 m], box b2 25 [.slice A d.sec.length c, .slice B d.pen.length k, .int .i64 d.left, .bool d.stop]]) (F := F)
        (Rf := fun o M' A'' => M = M' ∧ (o = none ∨ o = some (.exit 0)) ∧ ∃ s A1 k1, s = lastW d.pen m (d.sec.getD m []) ∧ s.length = 128 ∧ BSl M (.slice A1 s.length k1) s ∧ A'' = [box b0 35 [.slice A1 s.length k1], box b3 3 [.int .i64 m], box b2 25 [.slice A d.sec.length c, .slice B d.pen.length k, .int .i64 d.left, .bool d.stop]]) rfl (List.Perm.refl _) (fun l dd lp p1 p2 p3 p4 p5 hfit => ?_) (fun dd M' A'' hm => ⟨?_, ?_⟩)
      · refine Bf.Fn.mono (back1_fn M B k l bb d.pen h2
          (fun i A' => A' = [loopR l lp, defR dd, box b0 35 [.slice A1 x.length k1], box b3 3 [.int .i64 m], box b2 25 [.slice A d.sec.length c, .slice B d.pen.length k, .int .i64 d.left, .bool d.stop]] ∧ ∀ (j : Nat) (y : Int × List UInt8), i ≤ j → d.pen[j]? = some y → y.1 ≠ (m : Int))
          (fun A' => ∃ s A1 k1, s = lastW d.pen m (d.sec.getD m []) ∧ s.length = 128 ∧ BSl M (.slice A1 s.length k1) s ∧ A' = [loopR l { lp with state := .done, pending := some (.exit 0) }, defR dd, box b0 35 [.slice A1 s.length k1], box b3 3 [.int .i64 m], box b2 25 [.slice A d.sec.length c, .slice B d.pen.length k, .int .i64 d.left, .bool d.stop]])
          _ _ ⟨rfl, fun j y hj hy => ?_⟩ ((List.perm_middle (l₁ := [loopR l lp, defR dd])).symm) (fun i y A2 k2 A' hy hb2 hJ => ?_)) (fun v M' A' hm hR => ?_)
        · have := (List.getElem?_eq_some_iff.1 hy).1
          omega
        · obtain ⟨rfl, hJ⟩ := hJ
          refine Yl.intro (ps := [26]) p3 rfl (by simp) hfit (by repeat (first | exact Has.here | apply Has.there)) (fun E F => ?_)
          rw [p4, p5]
          repeat (first | ((with_reducible refine Tr.step rfl ?_); (first | ((with_reducible refine Knd.store ?_); ((refine Exec.storeW rfl rfl (tysOk.get rfl) (by repeat (first | exact Upd.here | apply Upd.there)) rfl rfl (by repeat (first | exact AllOne.nil | refine AllOne.cons (by first | rfl | assumption) ?_)) ?_))) | ((with_reducible refine Knd.alloc ?_); (first | (refine Exec.alloc (tysOk.get rfl) rfl rfl (fun b => ?_)) | (refine Exec.alloc1 (tysOk.get rfl) rfl rfl rfl (fun b => ?_)))))) | (with_reducible refine Tr.next ?_) | (with_reducible refine Tr.region ?_) | (with_reducible refine Tr.nil ?_))
          refine Tr.begin (by repeat (first | exact Upd.here | apply Upd.there)) p1 ?_
          by_cases he : y.1 = (m : Int)
          · repeat (first | ((with_reducible refine Tr.step rfl ?_); (first | ((with_reducible refine Knd.load ?_); ((refine Exec.stab rfl (Stab.load rfl (tysOk.get rfl) rfl (by repeat (first | exact Has.here | apply Has.there)) rfl) rfl ?_))) | ((with_reducible refine Knd.fieldAddr ?_); ((refine Exec.stab rfl (Stab.fieldZ rfl (tysOk.get rfl) rfl rfl (tysOk.get rfl) rfl) rfl ?_))) | ((with_reducible refine Knd.binOp ?_); ((refine Exec.stab rfl (Stab.int rfl rfl rfl) rfl ?_))) | ((with_reducible refine Knd.store ?_); ((refine Exec.store rfl rfl (tysOk.get rfl) rfl (by first | rfl | assumption) (by repeat (first | exact Upd.here | apply Upd.there)) (by repeat (first | exact SetL.z | apply SetL.s)) ?_))))) | (with_reducible refine Tr.next ?_) | (with_reducible refine Tr.seq ?_) | (with_reducible refine Tr.region ?_) | (with_reducible refine Tr.nil ?_) | (with_reducible refine Tr.block ?_) | (with_reducible refine Tr.exit ?_) | ((with_reducible refine Tr.in_exit' ?_ ?_); (exact rfl)) | (refine Tr.cond_t rfl (by first | assumption | omega) ?_))
            have hy2 : y.2.length = 128 := hw y (getElem_mem' hy)
            refine Tr.round_exit (A' := [loopR l { lp with state := .done, pending := some (.exit 0) }, defR dd, box b0 35 [.slice A2 y.2.length k2], box b3 3 [.int .i64 m], box b2 25 [.slice A d.sec.length c, .slice B d.pen.length k, .int .i64 d.left, .bool d.stop]]) (by repeat (first | exact Upd.here | apply Upd.there)) (DropL.skip DropL.refl) (Mem.le.refl _) ⟨rfl, .inr ⟨rfl, y.2, A2, k2, (lastW_hit hy he fun j z hj hz => hJ j z hj hz).symm, hy2, hb2, by rw [p4, p5]⟩⟩
          · repeat (first | ((with_reducible refine Tr.step rfl ?_); (first | ((with_reducible refine Knd.load ?_); ((refine Exec.stab rfl (Stab.load rfl (tysOk.get rfl) rfl (by repeat (first | exact Has.here | apply Has.there)) rfl) rfl ?_))) | ((with_reducible refine Knd.fieldAddr ?_); ((refine Exec.stab rfl (Stab.fieldZ rfl (tysOk.get rfl) rfl rfl (tysOk.get rfl) rfl) rfl ?_))) | ((with_reducible refine Knd.binOp ?_); ((refine Exec.stab rfl (Stab.int rfl rfl rfl) rfl ?_))))) | (with_reducible refine Tr.next ?_) | (with_reducible refine Tr.seq ?_) | (with_reducible refine Tr.region ?_) | (with_reducible refine Tr.nil ?_) | (with_reducible refine Tr.skip ?_) | (with_reducible refine Tr.block ?_) | (with_reducible refine Tr.in_normal ?_) | (refine Tr.cond_f rfl (by first | assumption | omega) ?_))
            have e : ({ lp with state := .ready, pending := none } : Loop) = lp := by cases lp; simp_all
            refine Tr.round_normal (A' := [loopR l { lp with state := .ready, pending := none }, defR dd, box b0 35 [.slice A1 x.length k1], box b3 3 [.int .i64 m], box b2 25 [.slice A d.sec.length c, .slice B d.pen.length k, .int .i64 d.left, .bool d.stop]]) (by repeat (first | exact Upd.here | apply Upd.there)) (DropL.skip DropL.refl) (Mem.le.refl _) ⟨rfl, .inl ⟨rfl, by rw [e], fun j z hj hz => ?_⟩⟩
            by_cases ej : j = i
            · subst ej
              rw [hy] at hz
              cases hz
              exact he
            · exact hJ j z (by omega) hz
        · obtain ⟨rfl, ⟨rfl, hJ⟩ | ⟨s, A2, k2, hs2, hl2, hb2, rfl⟩⟩ := hR
          · refine ⟨lp, _, rfl, by rw [p1]; decide, rfl, .inl p2, x, A1, k1, ?_, hs, hb, rfl⟩
            rw [lastW_skip (fun i y hy => hJ i y (Nat.zero_le _) hy), hdx]
          · exact ⟨_, _, rfl, by simp, rfl, .inr rfl, s, A2, k2, hs2, hl2, hb2, rfl⟩
      · rintro ⟨rfl, -, s, A2, k2, hs, hl, hb2, rfl⟩
        repeat (first | ((with_reducible refine Tr.step rfl ?_); (((with_reducible refine Knd.load ?_); ((refine Exec.stab rfl (Stab.load rfl (tysOk.get rfl) rfl (by repeat (first | exact Has.here | apply Has.there)) rfl) rfl ?_))))) | (with_reducible refine Tr.next ?_) | (with_reducible refine Tr.seq ?_) | (with_reducible refine Tr.region ?_) | (with_reducible refine Tr.in_normal ?_))
        ((refine Tr.step rfl ?_)); refine Exec.call0 rfl (sector_fn M A2 k2 s hb2 (by omega)) rfl ?_
        rintro _ M1 hm1 ⟨A3, k3, rfl, hb3⟩
        repeat (first | ((with_reducible refine Tr.step rfl ?_); (((with_reducible refine Knd.assign ?_); (refine Exec.stab rfl (Stab.assign rfl) rfl ?_)))) | (with_reducible refine Tr.next ?_) | (with_reducible refine Tr.nil ?_) | (with_reducible refine Tr.ret ?_))
        (refine Tr.doneM [_] rfl (by first | exact .inl rfl | exact .inr rfl) rfl (List.Perm.refl _) (by repeat (first | exact RVs.nil | (apply RVs.cons; (exact RV.tmp rfl)))) (by first | exact Mem.le.refl _ | assumption) (by exact ⟨[_, _, _], rfl⟩) ⟨rfl, ?_⟩)
        unfold rdF'
        rw [if_pos ⟨hk, hi1, hi2⟩]
        exact ⟨A3, k3, by simp only [Int.toNat_natCast, ← hs]; rfl, by simp only [Int.toNat_natCast, ← hs]; exact hb3⟩
      · rintro _ ⟨rfl, ho, s, A2, k2, hs, hl, hb2, rfl⟩
        rcases ho with ho | ho
        · cases ho
        · cases ho
          repeat (first | ((with_reducible refine Tr.step rfl ?_); (((with_reducible refine Knd.load ?_); ((refine Exec.stab rfl (Stab.load rfl (tysOk.get rfl) rfl (by repeat (first | exact Has.here | apply Has.there)) rfl) rfl ?_))))) | (with_reducible refine Tr.next ?_) | (with_reducible refine Tr.seq ?_) | (with_reducible refine Tr.region ?_) | (with_reducible refine Tr.exit ?_) | ((with_reducible refine Tr.in_exit ?_ ?_); (exact rfl)))
          repeat (fail)
          ((refine Tr.step rfl ?_)); refine Exec.call0 rfl (sector_fn M A2 k2 s hb2 (by omega)) rfl ?_
          rintro _ M1 hm1 ⟨A3, k3, rfl, hb3⟩
          repeat (first | ((with_reducible refine Tr.step rfl ?_); (((with_reducible refine Knd.assign ?_); (refine Exec.stab rfl (Stab.assign rfl) rfl ?_)))) | (with_reducible refine Tr.next ?_) | (with_reducible refine Tr.nil ?_) | (with_reducible refine Tr.ret ?_))
          (refine Tr.doneM [_] rfl (by first | exact .inl rfl | exact .inr rfl) rfl (List.Perm.refl _) (by repeat (first | exact RVs.nil | (apply RVs.cons; (exact RV.tmp rfl)))) (by first | exact Mem.le.refl _ | assumption) (by exact ⟨[_, _, _], rfl⟩) ⟨rfl, ?_⟩)
          unfold rdF'
          rw [if_pos ⟨hk, hi1, hi2⟩]
          exact ⟨A3, k3, by simp only [Int.toNat_natCast, ← hs]; rfl, by simp only [Int.toNat_natCast, ← hs]; exact hb3⟩
    · repeat (first | ((with_reducible refine Tr.step rfl ?_); (first | ((with_reducible refine Knd.assign ?_); (refine Exec.stab rfl (Stab.assign rfl) rfl ?_)) | ((with_reducible refine Knd.unOp ?_); (first | (refine Exec.stab rfl (Stab.notd rfl) rfl ?_) | (refine Exec.stab rfl (Stab.not rfl) rfl ?_) | (refine Exec.stab rfl (Stab.neg rfl (by omega)) rfl ?_))))) | (with_reducible refine Tr.next ?_) | (with_reducible refine Tr.seq ?_) | (with_reducible refine Tr.region ?_) | (with_reducible refine Tr.nil ?_) | (with_reducible refine Tr.ret ?_) | (with_reducible refine Tr.then_ret ?_) | (refine Tr.cond_t rfl (by first | assumption | omega) ?_))
      (refine Tr.doneM [] rfl (by first | exact .inl rfl | exact .inr rfl) rfl (List.Perm.refl _) (by repeat (first | exact RVs.nil | (apply RVs.cons; (exact RV.tmp rfl)))) (by first | exact Mem.le.refl _ | assumption) (by exact ⟨[_, _], rfl⟩) ⟨rfl, ?_⟩)
      unfold rdF'
      rw [if_neg (fun h => hi h.2)]
      exact ⟨none, 0, rfl, BSl.nil M⟩
  · ((refine Tr.step rfl ?_)); refine Exec.call0 rfl (running_n M _ d hD hk) rfl ?_
    rintro _ _ _ ⟨rfl, rfl⟩
    repeat (first | ((with_reducible refine Tr.step rfl ?_); (first | ((with_reducible refine Knd.move ?_); (refine Exec.stab rfl (Stab.move rfl) rfl ?_)) | ((with_reducible refine Knd.assign ?_); (refine Exec.stab rfl (Stab.assign rfl) rfl ?_)) | ((with_reducible refine Knd.binOp ?_); ((refine Exec.stab rfl (Stab.int rfl rfl rfl) rfl ?_))))) | (with_reducible refine Tr.next ?_) | (with_reducible refine Tr.seq ?_) | (with_reducible refine Tr.region ?_) | (with_reducible refine Tr.nil ?_) | (with_reducible refine Tr.ret ?_) | (with_reducible refine Tr.then_ret ?_) | (refine Tr.cond_t rfl (by first | assumption | omega) ?_))
    (refine Tr.doneM [] rfl (by first | exact .inl rfl | exact .inr rfl) rfl (List.Perm.refl _) (by repeat (first | exact RVs.nil | (apply RVs.cons; (exact RV.tmp rfl)))) (by first | exact Mem.le.refl _ | assumption) (by exact ⟨[_, _], rfl⟩) ⟨rfl, ?_⟩)
    unfold rdF'
    rw [if_neg (fun h => hk h.1)]
    exact ⟨none, 0, rfl, BSl.nil M⟩
end Go.Proofs.Ytfmfakgokgcjmaa
