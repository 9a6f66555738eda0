/-
  Honour: the row of HonourAll.
  Conditions: none.
-/
import Derived.Test.YtgnipfjjkliibaaP8BfRow
import Derived.Test.YtgnipfjjkliibaaRows
import Derived.ProofKit
import Derived.Test.YtgnipfjjkliibaaP8BfSl
import Derived.Test.YtgnipfjjkliibaaP8c
/-
  Honour: a request sought among the broken ones, the amounts of a book, few, the sample.
  Conditions: none.
-/
namespace Go.Proofs.Ytgnipfjjkliibaa
open Go Bf
attribute [local irreducible] Tr Exec Stab HasTy Go.Addr.add IntKind.wrap
set_option maxHeartbeats 4000000 in
theorem amounts_fn (M : Mem) (v : Value) (k : Bk) (h : RBk M v k) (hs : k.sups.length ≤ 1000000) (hr : k.reqs.length ≤ 1000000) :
    Fn0 Try.prog 20 [v] M (fun r M' => ∃ A1 c1 A2 c2, r = .tuple #[.slice A1 k.sups.length c1, .slice A2 k.reqs.length c2] ∧ Ints M' (.slice A1 k.sups.length c1) (beginF k).am ∧ Ints M' (.slice A2 k.reqs.length c2) (beginF k).nd) := by
  obtain ⟨As, cs, Ar, cr, Af, cf, Ad, cd, rfl, h1, h2, h3⟩ := h
  refine Fn.intro Try.func20 rfl rfl Try.ntmps20 rfl fun E F => ?_
  (repeat (first | ((with_reducible refine Tr.step rfl ?_); (first | ((with_reducible refine Knd.move ?_); (refine Exec.stab rfl (Stab.move rfl) rfl ?_)) | ((with_reducible refine Knd.assign ?_); (refine Exec.stab rfl (Stab.assign rfl) rfl ?_)) | ((with_reducible refine Knd.load ?_); (refine Exec.stab rfl (Stab.load rfl (tysOk.get rfl) rfl (by repeat (first | exact Has.here | apply Has.there)) rfl) rfl ?_)) | ((with_reducible refine Knd.fieldAddr ?_); (refine Exec.stab rfl (Stab.fieldZ rfl (tysOk.get rfl) rfl rfl (tysOk.get rfl) rfl) rfl ?_)) | ((with_reducible refine Knd.len ?_); (refine Exec.stab rfl (Stab.len rfl (tysOk.get rfl) rfl) rfl ?_)) | ((with_reducible refine Knd.box ?_); (refine Exec.box rfl rfl (fun b => ?_))))) | (with_reducible first | apply Tr.next | apply Tr.seq | apply Tr.region | apply Tr.nil | apply Tr.block)))
  generalize b = b1
  refine Tr.own_nil 3 1 ?_
  refine Tr.loop (α := Nat × Option Addr × Nat) (fun y => ⟨36, [(11, .int .i64 (y.1 : Int)), (10, .int .i64 (k.sups.length : Int)), (9, .slice As k.sups.length cs), (3, .slice none 0 0), (2, .slice y.2.1 y.1 y.2.2), (1, .pointer (some ⟨b1, 0, none⟩))], [], M,
      ownS 3 1 y.2.1 y.1 y.2.2 (intV ((k.sups.take y.1).map (·.amount))) :: box b1 27 [.int .i64 k.known, .slice As k.sups.length cs, .slice Ar k.reqs.length cr, .slice Af k.fits.length cf, .slice Ad k.reads cd] :: ([] ++ F)⟩)
    (fun y => y.1 ≤ k.sups.length ∧ y.2.2 ≤ 9223372036854775807) (fun y => k.sups.length - y.1) (0, none, 0) ⟨Nat.zero_le _, by show (0 : Nat) ≤ _; omega⟩ (holds_sub (by repeat (first | exact SubFr.nil | refine SubFr.cons rfl ?_)) (by repeat (first | exact DropL.refl | apply DropL.skip))) (fun y hy => ?_)
  obtain ⟨i, A1, c1⟩ := y
  obtain ⟨hi, hc1⟩ := hy
  dsimp only at hi hc1
  dsimp only
  by_cases hlt : i < k.sups.length
  · obtain ⟨y, hy⟩ := get_of_lt hlt
    obtain ⟨hA, ch, hat, rfl⟩ := h1.elem hy
    have e1 := map_take_succ (·.amount) hy
    (repeat (first | ((with_reducible refine Tr.step rfl ?_); (first | ((with_reducible refine Knd.move ?_); (refine Exec.stab rfl (Stab.move rfl) rfl ?_)) | ((with_reducible refine Knd.load ?_); (first | (refine Exec.stab rfl (Stab.load rfl (tysOk.get rfl) rfl (by repeat (first | exact Has.here | apply Has.there)) rfl) rfl ?_) | (refine Exec.stab rfl (Stab.loadMA rfl (tysOk.get rfl) rfl (by assumption) (by first | rfl | assumption)) rfl ?_))) | ((with_reducible refine Knd.fieldAddr ?_); (refine Exec.stab rfl (Stab.fieldZ rfl (tysOk.get rfl) rfl rfl (tysOk.get rfl) rfl) rfl ?_)) | ((with_reducible refine Knd.binOp ?_); (refine Exec.stab rfl (Stab.int rfl rfl rfl) rfl ?_)) | ((with_reducible refine Knd.store ?_); (refine Exec.storeW rfl rfl (tysOk.get rfl) (by repeat (first | exact Upd.here | apply Upd.there)) rfl rfl (by repeat (first | exact AllOne.nil | refine AllOne.cons (by first | rfl | assumption) ?_)) ?_)) | ((with_reducible refine Knd.alloc ?_); (refine Exec.alloc (tysOk.get rfl) rfl rfl (fun b => ?_))) | ((with_reducible refine Knd.indexAddr ?_); (refine Exec.stab rfl (Stab.indexAddr rfl rfl (tysOk.get rfl) rfl (tysOk.get rfl) rfl (by omega) (by omega) (by first | rfl | assumption)) rfl ?_)) | ((with_reducible refine Knd.buildSlice ?_); (refine Exec.buildSlice (tysOk.get rfl) rfl (tysOk.get rfl) rfl rfl rfl rfl rfl (by repeat (first | exact BuildP.nil | ((apply BuildP.one); (rfl); (rfl); (first | rfl | assumption); (repeat (first | exact SetL.z | apply SetL.s))))) rfl (fun b => ?_))))) | (with_reducible first | apply Tr.next | apply Tr.seq | apply Tr.region | apply Tr.nil | apply Tr.skip | apply Tr.block) | (refine Tr.cond_t rfl (by first | (with_reducible assumption) | omega) ?_)))
    rename_i b4
    ((refine Tr.step rfl ?_))
    refine Exec.append (news := [.int .i64 (y.amount)]) rfl rfl (tysOk.get rfl) rfl (tysOk.get rfl) rfl rfl rfl rfl (by repeat (first | exact Del.here | apply Del.there)) (Src.box (by repeat (first | exact Has.here | apply Has.there))) rfl (by intro u hu; simp at hu; subst hu; rfl) (by omega) (by omega) rfl (fun A3 c3 hc3 => ?_)
    refine Tr.give (r := box b 3 _) (by repeat (first | exact Del.here | apply Del.there)) ?_
    rw [show intV ((k.sups.take i).map (·.amount)) ++ [Value.int .i64 y.amount] = intV ((k.sups.take (i + 1)).map (·.amount)) by rw [e1, intV_append]; rfl]
    (repeat (first | ((with_reducible refine Tr.step rfl ?_); (first | ((with_reducible refine Knd.move ?_); (refine Exec.stab rfl (Stab.move rfl) rfl ?_)) | ((with_reducible refine Knd.assign ?_); (refine Exec.stab rfl (Stab.assign rfl) rfl ?_)) | ((with_reducible refine Knd.binOp ?_); (refine Exec.stab rfl (Stab.addi rfl rfl (by omega)) rfl ?_)))) | (with_reducible first | apply Tr.next | apply Tr.region | apply Tr.nil | apply Tr.in_normal)))
    refine Tr.give (r := box b4 _ _) (by repeat (first | exact Del.here | apply Del.there)) ?_
    exact Tr.again (i + 1, A3, c3) ⟨by simp only; omega, hc3⟩ (by simp only; omega) (holds_sub (by repeat (first | exact SubFr.nil | refine SubFr.cons rfl ?_)) (by repeat (first | exact DropL.refl | apply DropL.skip)))
  have ei : k.sups.length = i := by omega
  subst ei
  rw [List.take_length]
  (repeat (first | ((with_reducible refine Tr.step rfl ?_); (first | ((with_reducible refine Knd.move ?_); (refine Exec.stab rfl (Stab.move rfl) rfl ?_)) | ((with_reducible refine Knd.load ?_); (refine Exec.stab rfl (Stab.load rfl (tysOk.get rfl) rfl (by repeat (first | exact Has.here | apply Has.there)) rfl) rfl ?_)) | ((with_reducible refine Knd.fieldAddr ?_); (refine Exec.stab rfl (Stab.fieldZ rfl (tysOk.get rfl) rfl rfl (tysOk.get rfl) rfl) rfl ?_)) | ((with_reducible refine Knd.len ?_); (refine Exec.stab rfl (Stab.len rfl (tysOk.get rfl) rfl) rfl ?_)) | ((with_reducible refine Knd.binOp ?_); (refine Exec.stab rfl (Stab.int rfl rfl rfl) rfl ?_)))) | (with_reducible first | apply Tr.next | apply Tr.seq | apply Tr.region | apply Tr.nil | apply Tr.block | apply Tr.exit | apply Tr.then_exit) | ((with_reducible refine Tr.in_exit ?_ ?_); (exact rfl)) | (refine Tr.cond_f rfl (by first | (with_reducible assumption) | omega) ?_)))
  refine Tr.own_nil 3 1 ?_
  refine Tr.loop (α := Nat × Option Addr × Nat) (fun y => ⟨36, [(24, .int .i64 (y.1 : Int)), (23, .int .i64 (k.reqs.length : Int)), (22, .slice Ar k.reqs.length cr), (3, .slice y.2.1 y.1 y.2.2), (2, .slice A1 k.sups.length c1), (1, .pointer (some ⟨b1, 0, none⟩))], [], M,
      ownS 3 1 y.2.1 y.1 y.2.2 (intV ((k.reqs.take y.1).map (·.amount))) :: ownS 3 1 A1 k.sups.length c1 (intV (k.sups.map (·.amount))) :: box b1 27 [.int .i64 k.known, .slice As k.sups.length cs, .slice Ar k.reqs.length cr, .slice Af k.fits.length cf, .slice Ad k.reads cd] :: ([] ++ F)⟩)
    (fun y => y.1 ≤ k.reqs.length ∧ y.2.2 ≤ 9223372036854775807) (fun y => k.reqs.length - y.1) (0, none, 0) ⟨Nat.zero_le _, by show (0 : Nat) ≤ _; omega⟩ (holds_sub (by repeat (first | exact SubFr.nil | refine SubFr.cons rfl ?_)) (by repeat (first | exact DropL.refl | apply DropL.skip))) (fun y hy => ?_)
  obtain ⟨i, A2, c2⟩ := y
  obtain ⟨hi, hc2⟩ := hy
  dsimp only at hi hc2
  dsimp only
  by_cases hlt2 : i < k.reqs.length
  · obtain ⟨y, hy⟩ := get_of_lt hlt2
    obtain ⟨hA, ch, hat, rfl⟩ := h2.elem hy
    have e1 := map_take_succ (·.amount) hy
    (repeat (first | ((with_reducible refine Tr.step rfl ?_); (first | ((with_reducible refine Knd.move ?_); (refine Exec.stab rfl (Stab.move rfl) rfl ?_)) | ((with_reducible refine Knd.load ?_); (first | (refine Exec.stab rfl (Stab.load rfl (tysOk.get rfl) rfl (by repeat (first | exact Has.here | apply Has.there)) rfl) rfl ?_) | (refine Exec.stab rfl (Stab.loadMA rfl (tysOk.get rfl) rfl (by assumption) (by first | rfl | assumption)) rfl ?_))) | ((with_reducible refine Knd.fieldAddr ?_); (refine Exec.stab rfl (Stab.fieldZ rfl (tysOk.get rfl) rfl rfl (tysOk.get rfl) rfl) rfl ?_)) | ((with_reducible refine Knd.binOp ?_); (refine Exec.stab rfl (Stab.int rfl rfl rfl) rfl ?_)) | ((with_reducible refine Knd.store ?_); (refine Exec.storeW rfl rfl (tysOk.get rfl) (by repeat (first | exact Upd.here | apply Upd.there)) rfl rfl (by repeat (first | exact AllOne.nil | refine AllOne.cons (by first | rfl | assumption) ?_)) ?_)) | ((with_reducible refine Knd.alloc ?_); (refine Exec.alloc (tysOk.get rfl) rfl rfl (fun b => ?_))) | ((with_reducible refine Knd.indexAddr ?_); (refine Exec.stab rfl (Stab.indexAddr rfl rfl (tysOk.get rfl) rfl (tysOk.get rfl) rfl (by omega) (by omega) (by first | rfl | assumption)) rfl ?_)) | ((with_reducible refine Knd.buildSlice ?_); (refine Exec.buildSlice (tysOk.get rfl) rfl (tysOk.get rfl) rfl rfl rfl rfl rfl (by repeat (first | exact BuildP.nil | ((apply BuildP.one); (rfl); (rfl); (first | rfl | assumption); (repeat (first | exact SetL.z | apply SetL.s))))) rfl (fun b => ?_))))) | (with_reducible first | apply Tr.next | apply Tr.seq | apply Tr.region | apply Tr.nil | apply Tr.skip | apply Tr.block) | (refine Tr.cond_t rfl (by first | (with_reducible assumption) | omega) ?_)))
    rename_i b4
    ((refine Tr.step rfl ?_))
    refine Exec.append (news := [.int .i64 (y.amount)]) rfl rfl (tysOk.get rfl) rfl (tysOk.get rfl) rfl rfl rfl rfl (by repeat (first | exact Del.here | apply Del.there)) (Src.box (by repeat (first | exact Has.here | apply Has.there))) rfl (by intro u hu; simp at hu; subst hu; rfl) (by omega) (by omega) rfl (fun A3 c3 hc3 => ?_)
    refine Tr.give (r := box b 3 _) (by repeat (first | exact Del.here | apply Del.there)) ?_
    rw [show intV ((k.reqs.take i).map (·.amount)) ++ [Value.int .i64 y.amount] = intV ((k.reqs.take (i + 1)).map (·.amount)) by rw [e1, intV_append]; rfl]
    (repeat (first | ((with_reducible refine Tr.step rfl ?_); (first | ((with_reducible refine Knd.move ?_); (refine Exec.stab rfl (Stab.move rfl) rfl ?_)) | ((with_reducible refine Knd.assign ?_); (refine Exec.stab rfl (Stab.assign rfl) rfl ?_)) | ((with_reducible refine Knd.binOp ?_); (refine Exec.stab rfl (Stab.addi rfl rfl (by omega)) rfl ?_)))) | (with_reducible first | apply Tr.next | apply Tr.region | apply Tr.nil | apply Tr.in_normal)))
    refine Tr.give (r := box b4 _ _) (by repeat (first | exact Del.here | apply Del.there)) ?_
    exact Tr.again (i + 1, A3, c3) ⟨by simp only; omega, hc3⟩ (by simp only; omega) (holds_sub (by repeat (first | exact SubFr.nil | refine SubFr.cons rfl ?_)) (by repeat (first | exact DropL.refl | apply DropL.skip)))
  have ei : k.reqs.length = i := by omega
  subst ei
  rw [List.take_length]
  refine Tr.publish (r := ownS 3 1 A1 _ _ _) (by repeat (first | exact Del.here | apply Del.there)) (fun M1 hm1 ok1 => ?_)
  refine Tr.publish (r := ownS 3 1 A2 _ _ _) (by repeat (first | exact Del.here | apply Del.there)) (fun M2 hm2 ok2 => ?_)
  have i1 := Ints.ofOwn ok1 (by simp) hc1
  have i2 := Ints.ofOwn ok2 (by simp) hc2
  rw [List.length_map] at i1 i2
  have hlast := hm1.trans hm2
  (repeat (first | ((with_reducible refine Tr.step rfl ?_); (first | ((with_reducible refine Knd.move ?_); (refine Exec.stab rfl (Stab.move rfl) rfl ?_)) | ((with_reducible refine Knd.assign ?_); (refine Exec.stab rfl (Stab.assign rfl) rfl ?_)) | ((with_reducible refine Knd.binOp ?_); (refine Exec.stab rfl (Stab.int rfl rfl rfl) rfl ?_)))) | (with_reducible first | apply Tr.next | apply Tr.seq | apply Tr.region | apply Tr.nil | apply Tr.exit | apply Tr.ret | apply Tr.then_exit) | ((with_reducible refine Tr.in_exit ?_ ?_); (exact rfl)) | (refine Tr.cond_f rfl (by first | (with_reducible assumption) | omega) ?_)))
  (refine Tr.done (by first | exact .inl rfl | exact .inr rfl) rfl (by repeat (first | exact RVs.nil | (apply RVs.cons; (exact RV.tmp rfl)))) (by first | exact Mem.le.refl _ | assumption) (by exact ⟨[_], rfl⟩) ⟨rfl, ?_⟩)
  exact ⟨A1, c1, A2, c2, rfl, i1.mono RI.mono hm2, i2⟩
/-- few enough -/
def fewP (k : Bk) (l : List Hp) : Prop := (∀ r ∈ k.fits, r.length ≤ 8) ∧ k.sups.length ≤ 5 ∧ k.reqs.length ≤ 5 ∧ k.fits.length ≤ 8 ∧ k.reads ≤ 60 ∧ l.length ≤ 8
set_option maxHeartbeats 4000000 in
theorem few33_fn (M : Mem) (v : Value) (k : Bk) (h : RBk M v k) (A : Option Addr) (c : Nat) (l : List Hp) :
    Fn0 Try.prog 10 [v, .slice A l.length c] M (fun r M' => (∃ b : Bool, r = .bool b ∧ (b = true → fewP k l)) ∧ M = M') := by
  obtain ⟨As, cs, Ar, cr, Af, cf, Ad, cd, rfl, h1, h2, h3⟩ := h
  have l3 := h3.len_le
  refine Fn.intro Try.func10 rfl rfl Try.ntmps10 rfl fun E F => ?_
  (repeat (first | ((with_reducible refine Tr.step rfl ?_); (first | ((with_reducible refine Knd.assign ?_); (refine Exec.stab rfl (Stab.assign rfl) rfl ?_)) | ((with_reducible refine Knd.box ?_); (refine Exec.box rfl rfl (fun b => ?_))))) | (with_reducible first | apply Tr.next | apply Tr.seq | apply Tr.region | apply Tr.nil | apply Tr.block)))
  generalize b = b1
  refine Tr.loop (α := Nat) (fun y => ⟨47, [(5, .int .i64 (y : Int)), (2, .pointer (some ⟨b1, 0, none⟩)), (1, .slice A l.length c)], [], M, box b1 27 [.int .i64 k.known, .slice As k.sups.length cs, .slice Ar k.reqs.length cr, .slice Af k.fits.length cf, .slice Ad k.reads cd] :: ([] ++ F)⟩)
    (fun y => y ≤ k.fits.length ∧ ∀ t (u : List Bool), t < y → k.fits[t]? = some u → u.length ≤ 8) (fun y => k.fits.length - y) 0 ⟨Nat.zero_le _, fun t _ ht => by omega⟩ (holds_sub (by repeat (first | exact SubFr.nil | refine SubFr.cons rfl ?_)) (by repeat (first | exact DropL.refl | apply DropL.skip))) (fun i hi => ?_)
  obtain ⟨hi, hall⟩ := hi
  by_cases hlt : i < k.fits.length
  · obtain ⟨u, hu⟩ := get_of_lt hlt
    obtain ⟨hA, chx, hatx, Ax, nx, rfl, hIx⟩ := h3.elem hu
    by_cases e : u.length ≤ 8
    · (repeat (first | ((with_reducible refine Tr.step rfl ?_); (first | ((with_reducible refine Knd.move ?_); (refine Exec.stab rfl (Stab.move rfl) rfl ?_)) | ((with_reducible refine Knd.assign ?_); (refine Exec.stab rfl (Stab.assign rfl) rfl ?_)) | ((with_reducible refine Knd.load ?_); (first | (refine Exec.stab rfl (Stab.load rfl (tysOk.get rfl) rfl (by repeat (first | exact Has.here | apply Has.there)) rfl) rfl ?_) | (refine Exec.stab rfl (Stab.loadM rfl (tysOk.get rfl) rfl (by assumption)) rfl ?_))) | ((with_reducible refine Knd.fieldAddr ?_); (refine Exec.stab rfl (Stab.fieldZ rfl (tysOk.get rfl) rfl rfl (tysOk.get rfl) rfl) rfl ?_)) | ((with_reducible refine Knd.len ?_); (refine Exec.stab rfl (Stab.len rfl (tysOk.get rfl) rfl) rfl ?_)) | ((with_reducible refine Knd.binOp ?_); (first | (refine Exec.stab rfl (Stab.addi rfl rfl (by omega)) rfl ?_) | (refine Exec.stab rfl (Stab.int rfl rfl rfl) rfl ?_))) | ((with_reducible refine Knd.indexAddr ?_); (refine Exec.stab rfl (Stab.indexAddr rfl rfl (tysOk.get rfl) rfl (tysOk.get rfl) rfl (by omega) (by omega) (by first | rfl | assumption)) rfl ?_)))) | (with_reducible first | apply Tr.next | apply Tr.seq | apply Tr.region | apply Tr.nil | apply Tr.skip | apply Tr.block | apply Tr.in_normal) | (refine Tr.cond_t rfl (by first | (with_reducible assumption) | omega) ?_) | (refine Tr.cond_f rfl (by omega) ?_)))
      refine Tr.again (i + 1) ⟨by omega, fun t w ht hw => ?_⟩ (by omega) (holds_sub (by repeat (first | exact SubFr.nil | refine SubFr.cons rfl ?_)) (by repeat (first | exact DropL.refl | apply DropL.skip)))
      by_cases ht2 : t < i
      · exact hall t w ht2 hw
      · have : t = i := by omega
        subst this
        rw [hu] at hw
        cases hw
        exact e
    · (repeat (first | ((with_reducible refine Tr.step rfl ?_); (first | ((with_reducible refine Knd.move ?_); (refine Exec.stab rfl (Stab.move rfl) rfl ?_)) | ((with_reducible refine Knd.assign ?_); (refine Exec.stab rfl (Stab.assign rfl) rfl ?_)) | ((with_reducible refine Knd.load ?_); (first | (refine Exec.stab rfl (Stab.load rfl (tysOk.get rfl) rfl (by repeat (first | exact Has.here | apply Has.there)) rfl) rfl ?_) | (refine Exec.stab rfl (Stab.loadM rfl (tysOk.get rfl) rfl (by assumption)) rfl ?_))) | ((with_reducible refine Knd.fieldAddr ?_); (refine Exec.stab rfl (Stab.fieldZ rfl (tysOk.get rfl) rfl rfl (tysOk.get rfl) rfl) rfl ?_)) | ((with_reducible refine Knd.len ?_); (refine Exec.stab rfl (Stab.len rfl (tysOk.get rfl) rfl) rfl ?_)) | ((with_reducible refine Knd.binOp ?_); (refine Exec.stab rfl (Stab.int rfl rfl rfl) rfl ?_)) | ((with_reducible refine Knd.indexAddr ?_); (refine Exec.stab rfl (Stab.indexAddr rfl rfl (tysOk.get rfl) rfl (tysOk.get rfl) rfl (by omega) (by omega) (by first | rfl | assumption)) rfl ?_)))) | (with_reducible first | apply Tr.next | apply Tr.seq | apply Tr.region | apply Tr.nil | apply Tr.skip | apply Tr.block | apply Tr.ret | apply Tr.then_ret | apply Tr.in_ret) | (refine Tr.cond_t rfl (by first | (with_reducible assumption) | omega) ?_)))
      (refine Tr.done (by first | exact .inl rfl | exact .inr rfl) rfl (by repeat (first | exact RVs.nil | (apply RVs.cons; (exact RV.tmp rfl)))) (by first | exact Mem.le.refl _ | assumption) (by exact ⟨[_], rfl⟩) ⟨rfl, ?_⟩)
      exact ⟨⟨false, rfl, fun h => by cases h⟩, rfl⟩
  have ei : k.fits.length = i := by omega
  subst ei
  have hrows : ∀ r ∈ k.fits, r.length ≤ 8 := fun r hr => by
    obtain ⟨t, ht, rfl⟩ := List.getElem_of_mem hr
    exact hall t _ ht (List.getElem?_eq_getElem ht)
  by_cases c1 : k.sups.length ≤ 5
  rotate_left
  · (repeat (first | ((with_reducible refine Tr.step rfl ?_); (first | ((with_reducible refine Knd.move ?_); (refine Exec.stab rfl (Stab.move rfl) rfl ?_)) | ((with_reducible refine Knd.assign ?_); (refine Exec.stab rfl (Stab.assign rfl) rfl ?_)) | ((with_reducible refine Knd.load ?_); (refine Exec.stab rfl (Stab.load rfl (tysOk.get rfl) rfl (by repeat (first | exact Has.here | apply Has.there)) rfl) rfl ?_)) | ((with_reducible refine Knd.fieldAddr ?_); (refine Exec.stab rfl (Stab.fieldZ rfl (tysOk.get rfl) rfl rfl (tysOk.get rfl) rfl) rfl ?_)) | ((with_reducible refine Knd.len ?_); (refine Exec.stab rfl (Stab.len rfl (tysOk.get rfl) rfl) rfl ?_)) | ((with_reducible refine Knd.binOp ?_); (refine Exec.stab rfl (Stab.int rfl rfl rfl) rfl ?_)) | ((with_reducible refine Knd.pick ?_); (first | (refine Exec.stab rfl (Stab.pick_f rfl (by (with_reducible rfl)) rfl) rfl ?_) | (refine Exec.stab rfl (Stab.pick_fd rfl (by omega) rfl) rfl ?_))))) | (with_reducible first | apply Tr.next | apply Tr.seq | apply Tr.region | apply Tr.nil) | (refine Tr.guard_s1 rfl rfl rfl (by (with_reducible rfl)) rfl rfl ?_) | (refine Tr.guard_n rfl rfl rfl (by first | (with_reducible assumption) | omega) rfl rfl ?_) | (with_reducible first | apply Tr.exit | apply Tr.ret | apply Tr.then_exit) | ((with_reducible refine Tr.in_exit ?_ ?_); (exact rfl)) | (refine Tr.cond_f rfl (by first | (with_reducible assumption) | omega) ?_)))
    (refine Tr.done (by first | exact .inl rfl | exact .inr rfl) rfl (by repeat (first | exact RVs.nil | (apply RVs.cons; (exact RV.tmp rfl)))) (by first | exact Mem.le.refl _ | assumption) (by exact ⟨[_], rfl⟩) ⟨rfl, ?_⟩)
    exact ⟨⟨false, rfl, fun h => by cases h⟩, rfl⟩
  by_cases c2 : k.reqs.length ≤ 5
  rotate_left
  · (repeat (first | ((with_reducible refine Tr.step rfl ?_); (first | ((with_reducible refine Knd.move ?_); (refine Exec.stab rfl (Stab.move rfl) rfl ?_)) | ((with_reducible refine Knd.assign ?_); (refine Exec.stab rfl (Stab.assign rfl) rfl ?_)) | ((with_reducible refine Knd.load ?_); (refine Exec.stab rfl (Stab.load rfl (tysOk.get rfl) rfl (by repeat (first | exact Has.here | apply Has.there)) rfl) rfl ?_)) | ((with_reducible refine Knd.fieldAddr ?_); (refine Exec.stab rfl (Stab.fieldZ rfl (tysOk.get rfl) rfl rfl (tysOk.get rfl) rfl) rfl ?_)) | ((with_reducible refine Knd.len ?_); (refine Exec.stab rfl (Stab.len rfl (tysOk.get rfl) rfl) rfl ?_)) | ((with_reducible refine Knd.binOp ?_); (refine Exec.stab rfl (Stab.int rfl rfl rfl) rfl ?_)) | ((with_reducible refine Knd.pick ?_); (first | (refine Exec.stab rfl (Stab.pick_f rfl (by (with_reducible rfl)) rfl) rfl ?_) | (refine Exec.stab rfl (Stab.pick_td rfl (by omega) rfl) rfl ?_) | (refine Exec.stab rfl (Stab.pick_fd rfl (by omega) rfl) rfl ?_))))) | (with_reducible first | apply Tr.next | apply Tr.seq | apply Tr.region | apply Tr.nil) | (refine Tr.guard_s1 rfl rfl rfl (by (with_reducible rfl)) rfl rfl ?_) | ((refine Tr.guard_y rfl rfl rfl (by first | (with_reducible assumption) | omega) ?_); (first | ((with_reducible refine Knd.load ?_); (refine Exec.stab rfl (Stab.load rfl (tysOk.get rfl) rfl (by repeat (first | exact Has.here | apply Has.there)) rfl) rfl ?_)) | ((with_reducible refine Knd.fieldAddr ?_); (refine Exec.stab rfl (Stab.fieldZ rfl (tysOk.get rfl) rfl rfl (tysOk.get rfl) rfl) rfl ?_)) | ((with_reducible refine Knd.len ?_); (refine Exec.stab rfl (Stab.len rfl (tysOk.get rfl) rfl) rfl ?_)) | ((with_reducible refine Knd.binOp ?_); (refine Exec.stab rfl (Stab.int rfl rfl rfl) rfl ?_)))) | (refine Tr.guard_n rfl rfl rfl (by first | (with_reducible assumption) | omega) rfl rfl ?_) | (with_reducible first | apply Tr.exit | apply Tr.ret | apply Tr.then_exit) | ((with_reducible refine Tr.in_exit ?_ ?_); (exact rfl)) | (refine Tr.cond_f rfl (by first | (with_reducible assumption) | omega) ?_)))
    (refine Tr.done (by first | exact .inl rfl | exact .inr rfl) rfl (by repeat (first | exact RVs.nil | (apply RVs.cons; (exact RV.tmp rfl)))) (by first | exact Mem.le.refl _ | assumption) (by exact ⟨[_], rfl⟩) ⟨rfl, ?_⟩)
    exact ⟨⟨false, rfl, fun h => by cases h⟩, rfl⟩
  by_cases c3 : k.fits.length ≤ 8
  rotate_left
  · (repeat (first | ((with_reducible refine Tr.step rfl ?_); (first | ((with_reducible refine Knd.move ?_); (refine Exec.stab rfl (Stab.move rfl) rfl ?_)) | ((with_reducible refine Knd.assign ?_); (refine Exec.stab rfl (Stab.assign rfl) rfl ?_)) | ((with_reducible refine Knd.load ?_); (refine Exec.stab rfl (Stab.load rfl (tysOk.get rfl) rfl (by repeat (first | exact Has.here | apply Has.there)) rfl) rfl ?_)) | ((with_reducible refine Knd.fieldAddr ?_); (refine Exec.stab rfl (Stab.fieldZ rfl (tysOk.get rfl) rfl rfl (tysOk.get rfl) rfl) rfl ?_)) | ((with_reducible refine Knd.len ?_); (refine Exec.stab rfl (Stab.len rfl (tysOk.get rfl) rfl) rfl ?_)) | ((with_reducible refine Knd.binOp ?_); (refine Exec.stab rfl (Stab.int rfl rfl rfl) rfl ?_)) | ((with_reducible refine Knd.pick ?_); (first | (refine Exec.stab rfl (Stab.pick_f rfl (by (with_reducible rfl)) rfl) rfl ?_) | (refine Exec.stab rfl (Stab.pick_td rfl (by omega) rfl) rfl ?_) | (refine Exec.stab rfl (Stab.pick_fd rfl (by omega) rfl) rfl ?_))))) | (with_reducible first | apply Tr.next | apply Tr.seq | apply Tr.region | apply Tr.nil) | (refine Tr.guard_s1 rfl rfl rfl (by (with_reducible rfl)) rfl rfl ?_) | ((refine Tr.guard_y rfl rfl rfl (by first | (with_reducible assumption) | omega) ?_); (first | ((with_reducible refine Knd.load ?_); (refine Exec.stab rfl (Stab.load rfl (tysOk.get rfl) rfl (by repeat (first | exact Has.here | apply Has.there)) rfl) rfl ?_)) | ((with_reducible refine Knd.fieldAddr ?_); (refine Exec.stab rfl (Stab.fieldZ rfl (tysOk.get rfl) rfl rfl (tysOk.get rfl) rfl) rfl ?_)) | ((with_reducible refine Knd.len ?_); (refine Exec.stab rfl (Stab.len rfl (tysOk.get rfl) rfl) rfl ?_)) | ((with_reducible refine Knd.binOp ?_); (refine Exec.stab rfl (Stab.int rfl rfl rfl) rfl ?_)))) | (refine Tr.guard_n rfl rfl rfl (by first | (with_reducible assumption) | omega) rfl rfl ?_) | (with_reducible first | apply Tr.exit | apply Tr.ret | apply Tr.then_exit) | ((with_reducible refine Tr.in_exit ?_ ?_); (exact rfl)) | (refine Tr.cond_f rfl (by first | (with_reducible assumption) | omega) ?_)))
    (refine Tr.done (by first | exact .inl rfl | exact .inr rfl) rfl (by repeat (first | exact RVs.nil | (apply RVs.cons; (exact RV.tmp rfl)))) (by first | exact Mem.le.refl _ | assumption) (by exact ⟨[_], rfl⟩) ⟨rfl, ?_⟩)
    exact ⟨⟨false, rfl, fun h => by cases h⟩, rfl⟩
  by_cases c4 : k.reads ≤ 60
  rotate_left
  · (repeat (first | ((with_reducible refine Tr.step rfl ?_); (first | ((with_reducible refine Knd.move ?_); (refine Exec.stab rfl (Stab.move rfl) rfl ?_)) | ((with_reducible refine Knd.assign ?_); (refine Exec.stab rfl (Stab.assign rfl) rfl ?_)) | ((with_reducible refine Knd.load ?_); (refine Exec.stab rfl (Stab.load rfl (tysOk.get rfl) rfl (by repeat (first | exact Has.here | apply Has.there)) rfl) rfl ?_)) | ((with_reducible refine Knd.fieldAddr ?_); (refine Exec.stab rfl (Stab.fieldZ rfl (tysOk.get rfl) rfl rfl (tysOk.get rfl) rfl) rfl ?_)) | ((with_reducible refine Knd.len ?_); (refine Exec.stab rfl (Stab.len rfl (tysOk.get rfl) rfl) rfl ?_)) | ((with_reducible refine Knd.binOp ?_); (refine Exec.stab rfl (Stab.int rfl rfl rfl) rfl ?_)) | ((with_reducible refine Knd.pick ?_); (first | (refine Exec.stab rfl (Stab.pick_td rfl (by omega) rfl) rfl ?_) | (refine Exec.stab rfl (Stab.pick_fd rfl (by omega) rfl) rfl ?_))))) | (with_reducible first | apply Tr.next | apply Tr.seq | apply Tr.region | apply Tr.nil) | ((refine Tr.guard_y rfl rfl rfl (by first | (with_reducible assumption) | omega) ?_); (first | ((with_reducible refine Knd.load ?_); (refine Exec.stab rfl (Stab.load rfl (tysOk.get rfl) rfl (by repeat (first | exact Has.here | apply Has.there)) rfl) rfl ?_)) | ((with_reducible refine Knd.fieldAddr ?_); (refine Exec.stab rfl (Stab.fieldZ rfl (tysOk.get rfl) rfl rfl (tysOk.get rfl) rfl) rfl ?_)) | ((with_reducible refine Knd.len ?_); (refine Exec.stab rfl (Stab.len rfl (tysOk.get rfl) rfl) rfl ?_)) | ((with_reducible refine Knd.binOp ?_); (refine Exec.stab rfl (Stab.int rfl rfl rfl) rfl ?_)))) | (refine Tr.guard_n rfl rfl rfl (by first | (with_reducible assumption) | omega) rfl rfl ?_) | (with_reducible first | apply Tr.exit | apply Tr.ret | apply Tr.then_exit) | ((with_reducible refine Tr.in_exit ?_ ?_); (exact rfl)) | (refine Tr.cond_f rfl (by first | (with_reducible assumption) | omega) ?_)))
    (refine Tr.done (by first | exact .inl rfl | exact .inr rfl) rfl (by repeat (first | exact RVs.nil | (apply RVs.cons; (exact RV.tmp rfl)))) (by first | exact Mem.le.refl _ | assumption) (by exact ⟨[_], rfl⟩) ⟨rfl, ?_⟩)
    exact ⟨⟨false, rfl, fun h => by cases h⟩, rfl⟩
  (repeat (first | ((with_reducible refine Tr.step rfl ?_); (first | ((with_reducible refine Knd.move ?_); (refine Exec.stab rfl (Stab.move rfl) rfl ?_)) | ((with_reducible refine Knd.assign ?_); (refine Exec.stab rfl (Stab.assign rfl) rfl ?_)) | ((with_reducible refine Knd.load ?_); (refine Exec.stab rfl (Stab.load rfl (tysOk.get rfl) rfl (by repeat (first | exact Has.here | apply Has.there)) rfl) rfl ?_)) | ((with_reducible refine Knd.fieldAddr ?_); (refine Exec.stab rfl (Stab.fieldZ rfl (tysOk.get rfl) rfl rfl (tysOk.get rfl) rfl) rfl ?_)) | ((with_reducible refine Knd.len ?_); (refine Exec.stab rfl (Stab.len rfl (tysOk.get rfl) rfl) rfl ?_)) | ((with_reducible refine Knd.binOp ?_); (refine Exec.stab rfl (Stab.int rfl rfl rfl) rfl ?_)) | ((with_reducible refine Knd.pick ?_); (refine Exec.stab rfl (Stab.pick_td rfl (by omega) rfl) rfl ?_)))) | (with_reducible first | apply Tr.next | apply Tr.seq | apply Tr.region | apply Tr.nil) | ((refine Tr.guard_y rfl rfl rfl (by first | (with_reducible assumption) | omega) ?_); (first | ((with_reducible refine Knd.move ?_); (refine Exec.stab rfl (Stab.move rfl) rfl ?_)) | ((with_reducible refine Knd.load ?_); (refine Exec.stab rfl (Stab.load rfl (tysOk.get rfl) rfl (by repeat (first | exact Has.here | apply Has.there)) rfl) rfl ?_)) | ((with_reducible refine Knd.fieldAddr ?_); (refine Exec.stab rfl (Stab.fieldZ rfl (tysOk.get rfl) rfl rfl (tysOk.get rfl) rfl) rfl ?_)) | ((with_reducible refine Knd.len ?_); (refine Exec.stab rfl (Stab.len rfl (tysOk.get rfl) rfl) rfl ?_)) | ((with_reducible refine Knd.binOp ?_); (refine Exec.stab rfl (Stab.int rfl rfl rfl) rfl ?_)))) | (with_reducible first | apply Tr.exit | apply Tr.ret | apply Tr.then_exit) | ((with_reducible refine Tr.in_exit ?_ ?_); (exact rfl)) | (refine Tr.cond_f rfl (by first | (with_reducible assumption) | omega) ?_)))
  (refine Tr.done (by first | exact .inl rfl | exact .inr rfl) rfl (by repeat (first | exact RVs.nil | (apply RVs.cons; (exact RV.tmp rfl)))) (by first | exact Mem.le.refl _ | assumption) (by exact ⟨[_], rfl⟩) ⟨rfl, ?_⟩)
  exact ⟨⟨_, rfl, fun h => ⟨hrows, c1, c2, c3, c4, by have := of_decide_eq_true h; omega⟩⟩, rfl⟩
end Go.Proofs.Ytgnipfjjkliibaa

/-
  Matching, plain: sets of bits and sets of requests; what the reference computes of them.
  Conditions: none.
-/
namespace Go.Proofs.Ytgnipfjjkliibaa
open Go Bf
/-- the bits of a set -/
def bitsOf (S : Nat → Bool) : Nat → Nat
  | 0 => 0
  | m + 1 => bitsOf S m + if S m then 2 ^ m else 0
theorem bitsOf_lt (S : Nat → Bool) : ∀ m, bitsOf S m < 2 ^ m
  | 0 => by simp [bitsOf]
  | m + 1 => by
    have := bitsOf_lt S m
    rw [bitsOf, Nat.pow_succ]
    split <;> omega
theorem bitsOf_bit (S : Nat → Bool) : ∀ m i, (bitsOf S m).testBit i = (decide (i < m) && S i)
  | 0, i => by simp [bitsOf]
  | m + 1, i => by
    have hl := bitsOf_lt S m
    have ih := bitsOf_bit S m i
    have e : bitsOf S (m + 1) = 2 ^ m * (if S m then 1 else 0) + bitsOf S m := by
      rw [bitsOf]; split <;> simp <;> omega
    rw [e, Nat.testBit_two_pow_mul_add _ hl]
    by_cases h : i < m
    · rw [if_pos h, ih]
      have h2 : i < m + 1 := by omega
      simp [h, h2]
    · rw [if_neg h]
      by_cases h3 : i = m
      · subst h3
        simp
        cases S i <;> simp
      · have h4 : ¬ i < m + 1 := by omega
        simp only [h4, decide_false, Bool.false_and]
        obtain ⟨d, hd⟩ : ∃ d, i - m = d + 1 := ⟨i - m - 1, by omega⟩
        rw [hd]
        cases S m <;> simp [Nat.testBit_succ]
theorem touch_bits {fits : List (List Bool)} {sup need : List Int} (hv : Vld fits sup need) {k : Nat} (hk : k < sup.length) (s : Nat) : touchB (fits.getD k []) s = touches (pbOf fits sup need) (fun b => s.testBit b) k := by
  have hl := hv.lf
  obtain ⟨row, hr⟩ := get_of_lt (xs := fits) (i := k) (by omega)
  have hrl := hv.rows row (List.mem_of_getElem? hr)
  unfold touchB touches
  rw [getD_of (d := []) hr, hrl]
  show _ = (List.range need.length).any fun b => s.testBit b && (fits.getD k []).getD b false
  rw [getD_of (d := []) hr]
theorem lackB_eq {fits : List (List Bool)} {sup need : List Int} (hv : Vld fits sup need) (s : Nat) : lackB fits sup need s = lackOf (pbOf fits sup need) (fun b => s.testBit b) := by
  unfold lackB lackOf
  congr 1
  refine sumN_congr fun k hk => ?_
  rw [touch_bits hv hk]
  rfl
theorem lackOf_congr {p : Pb} {D D' : Nat → Bool} (h : ∀ b, b < p.m → D b = D' b) : lackOf p D = lackOf p D' := by
  unfold lackOf
  congr 1
  · exact sumN_congr fun b hb => by rw [h b hb]
  · refine sumN_congr fun k _ => ?_
    have : touches p D k = touches p D' k := by
      rw [Bool.eq_iff_iff, touches_iff, touches_iff]
      exact ⟨fun ⟨b, h1, h2, h3⟩ => ⟨b, h1, by rw [← h b h1]; exact h2, h3⟩, fun ⟨b, h1, h2, h3⟩ => ⟨b, h1, by rw [h b h1]; exact h2, h3⟩⟩
    rw [this]
theorem lackOf_bits {fits : List (List Bool)} {sup need : List Int} (hv : Vld fits sup need) (D : Nat → Bool) : lackOf (pbOf fits sup need) D = lackB fits sup need (bitsOf D need.length) := by
  rw [lackB_eq hv]
  refine lackOf_congr fun b hb => ?_
  rw [bitsOf_bit]
  have : b < need.length := hb
  simp [this]
theorem MaxLack.isLack {fits : List (List Bool)} {sup need : List Int} (hv : Vld fits sup need) {v : Int} (h : MaxLack fits sup need (2 ^ need.length) v) : IsLack (pbOf fits sup need) v := by
  refine ⟨?_, fun D => ?_⟩
  · rcases h.is with h | ⟨s, _, _, h⟩
    · exact ⟨fun _ => false, by rw [lackOf_none, h]⟩
    · exact ⟨_, by rw [← lackB_eq hv, h]⟩
  · rw [lackOf_bits hv]
    by_cases h0 : bitsOf D need.length = 0
    · rw [h0, lackB_eq hv]
      have : lackOf (pbOf fits sup need) (fun b => (0 : Nat).testBit b) = 0 := by
        rw [← lackOf_none (pbOf fits sup need)]
        exact lackOf_congr fun b _ => by simp
      rw [this]; exact h.nn
    · exact h.le _ (by omega) (bitsOf_lt _ _)
/-- a part of the requests can be met if no part of it lacks anything -/
theorem lackS_le {fits : List (List Bool)} {sup need : List Int} (hv : Vld fits sup need) (S D : Nat → Bool) : lackOf (pbS fits sup need S) D ≤ lackOf (pbOf fits sup need) (fun b => D b && S b) := by
  unfold lackOf
  have h1 : (sumN (pbS fits sup need S).m fun b => if D b = true then (pbS fits sup need S).need b else 0) = sumN (pbOf fits sup need).m fun b => if (D b && S b) = true then (pbOf fits sup need).need b else 0 := sumN_congr fun b _ => by
    show (if D b = true then (if S b = true then need.getD b 0 else 0) else 0) = if (D b && S b) = true then need.getD b 0 else 0
    cases D b <;> cases S b <;> simp
  have h2 : (sumN (pbOf fits sup need).n fun k => if touches (pbOf fits sup need) (fun b => D b && S b) k = true then (pbOf fits sup need).sup k else 0) ≤ sumN (pbS fits sup need S).n fun k => if touches (pbS fits sup need S) D k = true then (pbS fits sup need S).sup k else 0 := sumN_le fun k hk => by
    by_cases ht : touches (pbOf fits sup need) (fun b => D b && S b) k = true
    · have : touches (pbS fits sup need S) D k = true := by
        obtain ⟨b, g1, g2, g3⟩ := touches_iff.1 ht
        exact touches_iff.2 ⟨b, g1, by simp at g2; exact g2.1, g3⟩
      rw [if_pos ht, if_pos this]
      exact Int.le_refl _
    · rw [if_neg ht]
      split
      · exact (getD_rng hv.rs k).1
      · exact Int.le_refl _
  exact Int.sub_le_sub (Int.le_of_eq h1) h2
theorem lackS_eq {fits : List (List Bool)} {sup need : List Int} (S D : Nat → Bool) (h : ∀ b, b < need.length → D b = true → S b = true) : lackOf (pbS fits sup need S) D = lackOf (pbOf fits sup need) D := by
  unfold lackOf
  congr 1
  refine sumN_congr fun b hb => ?_
  show (if D b = true then (if S b = true then need.getD b 0 else 0) else 0) = if D b = true then need.getD b 0 else 0
  by_cases hd : D b = true
  · rw [if_pos hd, if_pos hd, if_pos (h b hb hd)]
  · rw [if_neg hd, if_neg hd]
theorem feasS_iff {fits : List (List Bool)} {sup need : List Int} (hv : Vld fits sup need) (S : Nat → Bool) : Feas (pbS fits sup need S) ↔ ∀ D, lackOf (pbS fits sup need S) D ≤ 0 := feas_iff (fun k _ => (getD_rng hv.rs k).1) (fun b _ => by
  show 0 ≤ if S b = true then need.getD b 0 else 0
  split
  · exact (getD_rng hv.rn b).1
  · exact Int.le_refl _)
theorem poss_iff {fits : List (List Bool)} {sup need : List Int} (hv : Vld fits sup need) {set : Nat} (hs : set < 2 ^ need.length) : Poss fits sup need set ↔ Feas (pbS fits sup need fun b => set.testBit b) := by
  rw [feasS_iff hv]
  refine ⟨fun h D => ?_, fun h s h1 h2 h3 => ?_⟩
  · refine Int.le_trans (lackS_le hv _ D) ?_
    rw [lackOf_bits hv]
    by_cases h0 : bitsOf (fun b => D b && set.testBit b) need.length = 0
    · rw [h0, lackB_eq hv]
      have : lackOf (pbOf fits sup need) (fun b => (0 : Nat).testBit b) = 0 := by
        rw [← lackOf_none (pbOf fits sup need)]
        exact lackOf_congr fun b _ => by simp
      rw [this]; exact Int.le_refl _
    · have hsub : bitsOf (fun b => D b && set.testBit b) need.length &&& set = bitsOf (fun b => D b && set.testBit b) need.length := by
        apply Nat.eq_of_testBit_eq
        intro i
        rw [Nat.testBit_and, bitsOf_bit]
        cases D i <;> cases set.testBit i <;> simp
      refine h _ (by omega) ?_ hsub
      rw [← hsub]
      exact Nat.and_le_right
  · rw [lackB_eq hv, ← lackS_eq (S := fun b => set.testBit b)]
    · exact h _
    · intro b _ hb
      rw [← h3, Nat.testBit_and] at hb
      simp at hb
      exact hb.2
theorem feas_poss {fits : List (List Bool)} {sup need : List Int} (hv : Vld fits sup need) : Feas (pbOf fits sup need) ↔ Poss fits sup need (2 ^ need.length - 1) := by
  rw [poss_iff hv (by have := Nat.two_pow_pos need.length; omega), feasS_iff hv, feas_iff hv.sup0 hv.need0]
  have h : ∀ D, lackOf (pbS fits sup need fun b => (2 ^ need.length - 1).testBit b) D = lackOf (pbOf fits sup need) D := fun D => lackS_eq _ _ fun b hb _ => by rw [Nat.testBit_two_pow_sub_one]; simp [hb]
  simp only [h]
end Go.Proofs.Ytgnipfjjkliibaa

/-
  Matching, plain: how much of a supply a request can get; amounts one after the other.
  Conditions: none.
-/
namespace Go.Proofs.Ytgnipfjjkliibaa
open Go Bf
theorem Flow.congr {p : Pb} {x y : Nat → Nat → Int} {lack : Nat → Int} (h : Bf.Flow p x lack) (e : ∀ k, k < p.n → ∀ b, b ≤ p.m → y k b = x k b) : Bf.Flow p y lack := by
  refine ⟨⟨fun k hk b hb => by rw [e k hk b hb]; exact h.nn k hk b hb, fun k hk b hb h0 => h.ok k hk b hb (by rw [← e k hk b (by omega)]; exact h0), fun k hk => ?_⟩, fun b hb => ?_, h.lk⟩
  · rw [← h.row k hk]
    exact sumN_congr fun b hb => e k hk b (by omega)
  · rw [← h.col b hb]
    congr 1
    exact sumN_congr fun k hk => e k hk b (by omega)
/-- what remains when the supply s has given v to the request r, and serves it no more -/
def afterP (q : Pb) (s r : Nat) (v : Int) : Pb := ⟨q.n, q.m, fun k b => q.fits k b && !(decide (k = s) && decide (b = r)), fun k => if k = s then q.sup k - v else q.sup k, fun b => if b = r then q.need b - v else q.need b⟩
def addAt (c : Nat → Nat → Int) (s r : Nat) (v : Int) (k b : Nat) : Int := if k = s ∧ b = r then c k b + v else c k b
theorem sumN_at {n s : Nat} {f g : Nat → Int} {v : Int} (hs : s < n) (h1 : g s = f s + v) (h2 : ∀ i, i ≠ s → g i = f i) : sumN n g = sumN n f + v := by
  rw [sumN_upd (f := f) (g := g) hs h2, h1]; omega
theorem flow_add {q : Pb} {s r : Nat} {v : Int} {c : Nat → Nat → Int} (hs : s < q.n) (hr : r < q.m) (hf : q.fits s r = true) (hv : 0 ≤ v) (h : Bf.Flow (afterP q s r v) c fun _ => 0) : Bf.Flow q (addAt c s r v) fun _ => 0 := by
  have hz : c s r = 0 := by
    by_cases e : c s r = 0
    · exact e
    · have := h.ok s hs r hr e
      simp [afterP] at this
  refine ⟨⟨fun k hk b hb => ?_, fun k hk b hb h0 => ?_, fun k hk => ?_⟩, fun b hb => ?_, fun _ _ => Int.le_refl _⟩
  · have := h.nn k hk b hb
    unfold addAt
    split <;> omega
  · by_cases e : k = s ∧ b = r
    · obtain ⟨rfl, rfl⟩ := e; exact hf
    · unfold addAt at h0
      rw [if_neg e] at h0
      have := h.ok k hk b hb h0
      simp only [afterP, Bool.and_eq_true] at this
      exact this.1
  · have h1 : sumN (q.m + 1) (c k) = if k = s then q.sup k - v else q.sup k := h.row k hk
    by_cases e : k = s
    · subst e
      rw [if_pos rfl] at h1
      rw [sumN_at (n := q.m + 1) (s := r) (f := c k) (v := v) (by omega) (by simp [addAt]) (fun i hi => by simp [addAt, hi]), h1]
      omega
    · rw [if_neg e] at h1
      rw [← h1]
      exact sumN_congr fun b _ => by simp [addAt, e]
  · have h1 : (0 : Int) + sumN q.n (fun k => c k b) = if b = r then q.need b - v else q.need b := h.col b hb
    show (0 : Int) + sumN q.n (fun k => addAt c s r v k b) = q.need b
    by_cases e : b = r
    · subst e
      rw [if_pos rfl] at h1
      rw [sumN_at (n := q.n) (s := s) (f := fun k => c k b) (v := v) hs (by simp [addAt]) (fun i hi => by simp [addAt, hi])]
      omega
    · rw [if_neg e] at h1
      rw [← h1]
      congr 1
      exact sumN_congr fun k _ => by simp [addAt, e]
theorem flow_sub {q : Pb} {s r : Nat} {c : Nat → Nat → Int} (hs : s < q.n) (hr : r < q.m) (h : Bf.Flow q c fun _ => 0) : Bf.Flow (afterP q s r (c s r)) (addAt c s r (-(c s r))) fun _ => 0 := by
  have hnn := h.nn s hs r (by omega)
  refine ⟨⟨fun k hk b hb => ?_, fun k hk b hb h0 => ?_, fun k hk => ?_⟩, fun b hb => ?_, fun _ _ => Int.le_refl _⟩
  · have := h.nn k hk b hb
    unfold addAt
    split
    · rename_i e; obtain ⟨rfl, rfl⟩ := e; omega
    · exact this
  · unfold addAt at h0
    by_cases e : k = s ∧ b = r
    · rw [if_pos e] at h0
      obtain ⟨rfl, rfl⟩ := e
      omega
    · rw [if_neg e] at h0
      have := h.ok k hk b hb h0
      show (q.fits k b && !(decide (k = s) && decide (b = r))) = true
      rw [this]
      simp
      omega
  · have h1 : sumN (q.m + 1) (c k) = q.sup k := h.row k hk
    show sumN (q.m + 1) (addAt c s r (-(c s r)) k) = if k = s then q.sup k - c s r else q.sup k
    by_cases e : k = s
    · subst e
      rw [if_pos rfl, sumN_at (n := q.m + 1) (s := r) (f := c k) (v := -(c k r)) (by omega) (by simp [addAt]) (fun i hi => by simp [addAt, hi]), h1]
      omega
    · rw [if_neg e, ← h1]
      exact sumN_congr fun b _ => by simp [addAt, e]
  · have h1 : (0 : Int) + sumN q.n (fun k => c k b) = q.need b := h.col b hb
    show (0 : Int) + sumN q.n (fun k => addAt c s r (-(c s r)) k b) = if b = r then q.need b - c s r else q.need b
    by_cases e : b = r
    · subst e
      rw [if_pos rfl, sumN_at (n := q.n) (s := s) (f := fun k => c k b) (v := -(c s b)) hs (by simp [addAt]) (fun i hi => by simp [addAt, hi])]
      omega
    · rw [if_neg e, ← h1]
      congr 1
      exact sumN_congr fun k _ => by simp [addAt, e]
/-- what a flow gives is at most what the others leave over -/
theorem flow_le_lack {q : Pb} {c : Nat → Nat → Int} (h : Bf.Flow q c fun _ => 0) {s r : Nat} (hs : s < q.n) (hr : r < q.m) {D : Nat → Bool} (hD : D r = false) (ht : touches q D s = true) : c s r ≤ - lackOf q D := by
  have e := h.lackOf_eq D
  have z : (sumN q.m fun b => if D b = true then (0 : Int) else 0) = 0 := sumN_zero fun _ _ => by split <;> rfl
  rw [z, Int.zero_add] at e
  let f := fun k => (sumN q.m fun b => if D b = true then c k b else 0) - if touches q D k = true then q.sup k else 0
  have hf : ∀ k, k < q.n → f k ≤ 0 := fun k hk => by
    have := h.part_le D hk
    show (sumN q.m fun b => if D b = true then c k b else 0) - (if touches q D k = true then q.sup k else 0) ≤ 0
    omega
  have h1 := sumN_le_of_mem (f := fun k => - f k) (n := q.n) (k := s) (fun k hk => by have := hf k hk; show 0 ≤ - f k; omega) hs
  have h2 : (sumN q.n fun k => - f k) = - sumN q.n f := by
    have := sumN_sub (fun _ => 0) f q.n
    rw [sumN_zero (f := fun _ => 0) (fun _ _ => rfl)] at this
    simpa using this
  have h3 : sumN q.n f = lackOf q D := e.symm
  have h4 : (sumN q.m fun b => if D b = true then c s b else 0) + c s r ≤ q.sup s := by
    rw [← h.row s hs]
    have h5 : sumN q.m (fun b => if D b = true then c s b else 0) + c s r = sumN q.m (fun b => if b = r then c s b else if D b = true then c s b else 0) := by
      rw [sumN_at (n := q.m) (s := r) (f := fun b => if D b = true then c s b else 0) (g := fun b => if b = r then c s b else if D b = true then c s b else 0) (v := c s r) hr (by simp [hD]) (fun i hi => by simp [hi])]
    rw [h5]
    have h6 : sumN q.m (fun b => if b = r then c s b else if D b = true then c s b else 0) ≤ sumN q.m (c s) := sumN_le fun b hb => by
      have := h.nn s hs b (by omega)
      split
      · exact Int.le_refl _
      · split <;> omega
    have h7 := h.nn s hs q.m (Nat.le_refl _)
    have h8 : sumN (q.m + 1) (c s) = sumN q.m (c s) + c s q.m := rfl
    omega
  have h9 : f s ≤ - c s r := by
    show (sumN q.m fun b => if D b = true then c s b else 0) - (if touches q D s = true then q.sup s else 0) ≤ - c s r
    rw [if_pos ht]
    omega
  have h1 : - f s ≤ sumN q.n fun k => - f k := h1
  omega
/-- sums of requests, of supplies but for one -/
def needN (q : Pb) (D : Nat → Bool) : Int := sumN q.m fun b => if D b = true then q.need b else 0
def covN (q : Pb) (s : Nat) (D : Nat → Bool) : Int := sumN q.n fun k => if k = s then 0 else if touches q D k = true then q.sup k else 0
theorem lack_cov (q : Pb) {s : Nat} (hs : s < q.n) (D : Nat → Bool) : lackOf q D = needN q D - covN q s D - if touches q D s = true then q.sup s else 0 := by
  unfold lackOf needN covN
  rw [sumN_at (n := q.n) (s := s) (f := fun k => if k = s then 0 else if touches q D k = true then q.sup k else 0) (g := fun k => if touches q D k = true then q.sup k else 0) (v := if touches q D s = true then q.sup s else 0) hs (by simp) (fun i hi => by simp [hi])]
  omega
theorem need_split (q : Pb) (D E : Nat → Bool) : needN q D + needN q E = needN q (fun b => D b || E b) + needN q (fun b => D b && E b) := by
  unfold needN
  rw [← sumN_add, ← sumN_add]
  exact sumN_congr fun b _ => by cases hD : D b <;> cases hE : E b <;> simp [hD, hE]
theorem touches_or (q : Pb) (D E : Nat → Bool) (k : Nat) : touches q (fun b => D b || E b) k = (touches q D k || touches q E k) := by
  rw [Bool.eq_iff_iff, Bool.or_eq_true, touches_iff, touches_iff, touches_iff]
  constructor
  · rintro ⟨b, h1, h2, h3⟩
    simp at h2
    rcases h2 with h2 | h2
    · exact .inl ⟨b, h1, h2, h3⟩
    · exact .inr ⟨b, h1, h2, h3⟩
  · rintro (⟨b, h1, h2, h3⟩ | ⟨b, h1, h2, h3⟩)
    · exact ⟨b, h1, by simp [h2], h3⟩
    · exact ⟨b, h1, by simp [h2], h3⟩
theorem touches_and (q : Pb) (D E : Nat → Bool) (k : Nat) (h : touches q (fun b => D b && E b) k = true) : touches q D k = true ∧ touches q E k = true := by
  obtain ⟨b, h1, h2, h3⟩ := touches_iff.1 h
  simp at h2
  exact ⟨touches_iff.2 ⟨b, h1, h2.1, h3⟩, touches_iff.2 ⟨b, h1, h2.2, h3⟩⟩
theorem cov_split (q : Pb) (s : Nat) (hp : ∀ k, k < q.n → 0 ≤ q.sup k) (D E : Nat → Bool) : covN q s (fun b => D b || E b) + covN q s (fun b => D b && E b) ≤ covN q s D + covN q s E := by
  unfold covN
  rw [← sumN_add, ← sumN_add]
  refine sumN_le fun k hk => ?_
  have h0 := hp k hk
  by_cases e : k = s
  · simp [e]
  · simp only [if_neg e]
    rw [touches_or]
    have h1 := touches_and q D E k
    cases h2 : touches q (fun b => D b && E b) k
    · cases touches q D k <;> cases touches q E k <;> simp <;> omega
    · obtain ⟨h3, h4⟩ := h1 h2
      rw [h3, h4]
      simp
theorem cov_mono (q : Pb) (s : Nat) (hp : ∀ k, k < q.n → 0 ≤ q.sup k) {D E : Nat → Bool} (h : ∀ b, D b = true → E b = true) : covN q s D ≤ covN q s E := by
  refine sumN_le fun k hk => ?_
  have h0 := hp k hk
  by_cases e : k = s
  · simp [e]
  · simp only [if_neg e]
    cases h1 : touches q D k
    · simp
      split <;> omega
    · obtain ⟨b, g1, g2, g3⟩ := touches_iff.1 h1
      have : touches q E k = true := touches_iff.2 ⟨b, g1, h b g2, g3⟩
      simp [this]
/-- what is left is feasible when a request has got as much as possible -/
theorem room_feas {q : Pb} (hp : ∀ k, k < q.n → 0 ≤ q.sup k) (hn : ∀ b, b < q.m → 0 ≤ q.need b) (hf : Feas q) {s r : Nat} (hs : s < q.n) (hr : r < q.m) {v : Int} (l1 : v ≤ q.sup s) (l2 : v ≤ q.need r)
    (le : ∀ D : Nat → Bool, D r = false → touches q D s = true → v ≤ - lackOf q D) (is : v = q.sup s ∨ v = q.need r ∨ ∃ E : Nat → Bool, E r = false ∧ touches q E s = true ∧ v = - lackOf q E) : 0 ≤ v ∧ Feas (afterP q s r v) := by
  have hl := (feas_iff hp hn).1 hf
  have h0 : 0 ≤ v := by
    rcases is with h | h | ⟨E, -, -, h⟩
    · rw [h]; exact hp s hs
    · rw [h]; exact hn r hr
    · have := hl E; omega
  refine ⟨h0, hall (fun k hk => ?_) (fun b hb => ?_) fun D => ?_⟩
  · show 0 ≤ if k = s then q.sup k - v else q.sup k
    have := hp k hk
    split
    · rename_i e; subst e; omega
    · exact this
  · show 0 ≤ if b = r then q.need b - v else q.need b
    have := hn b hb
    split
    · rename_i e; subst e; omega
    · exact this
  -- the lack after
  have hneed : needN (afterP q s r v) D = needN q D - if D r = true then v else 0 := by
    unfold needN
    show (sumN q.m fun b => if D b = true then (if b = r then q.need b - v else q.need b) else 0) = _
    cases hD : D r
    · simp only [Bool.false_eq_true, if_false, Int.sub_zero]
      exact sumN_congr fun b _ => by
        by_cases e : b = r
        · subst e; simp [hD]
        · simp [e]
    · rw [sumN_at (n := q.m) (s := r) (f := fun b => if D b = true then q.need b else 0) (v := -v) hr (by simp [hD]; omega) (fun i hi => by simp [hi])]
      simp
      omega
  have htk : ∀ k, k ≠ s → touches (afterP q s r v) D k = touches q D k := fun k hk => by
    rw [Bool.eq_iff_iff, touches_iff, touches_iff]
    simp [afterP, hk]
  have hcov : covN (afterP q s r v) s D = covN q s D := by
    refine sumN_congr fun k _ => ?_
    by_cases e : k = s
    · simp [e]
    · simp only [if_neg e]
      rw [htk k e]
      show (if touches q D k = true then (if k = s then q.sup k - v else q.sup k) else 0) = _
      rw [if_neg e]
  have hts : touches (afterP q s r v) D s = true ↔ ∃ b, b < q.m ∧ D b = true ∧ b ≠ r ∧ q.fits s b = true := by
    rw [touches_iff]
    simp only [afterP, Bool.and_eq_true, Bool.not_eq_true', decide_true, Bool.true_and, decide_eq_false_iff_not]
    exact ⟨fun ⟨b, h1, h2, h3, h4⟩ => ⟨b, h1, h2, h4, h3⟩, fun ⟨b, h1, h2, h3, h4⟩ => ⟨b, h1, h2, h4, h3⟩⟩
  have hsup : (afterP q s r v).sup s = q.sup s - v := by simp [afterP]
  rw [lack_cov (afterP q s r v) (s := s) hs, hneed, hcov, hsup]
  have hD := hl D
  rw [lack_cov q hs D] at hD
  by_cases ht : touches (afterP q s r v) D s = true
  · rw [if_pos ht]
    obtain ⟨b, b1, b2, b3, b4⟩ := hts.1 ht
    have htq : touches q D s = true := touches_iff.2 ⟨b, b1, b2, b4⟩
    rw [if_pos htq] at hD
    cases hDr : D r
    · have := le D hDr htq
      rw [lack_cov q hs D, if_pos htq] at this
      simp
      omega
    · simp
      omega
  · rw [if_neg ht]
    have hno : ∀ b, b < q.m → D b = true → b ≠ r → q.fits s b = false := fun b h1 h2 h3 => by
      cases h : q.fits s b
      · rfl
      · exact absurd (hts.2 ⟨b, h1, h2, h3, h⟩) ht
    cases hDr : D r
    · have htq : touches q D s = false := by
        cases h : touches q D s
        · rfl
        · obtain ⟨b, h1, h2, h3⟩ := touches_iff.1 h
          rw [hno b h1 h2 (fun e => by rw [e, hDr] at h2; cases h2)] at h3
          cases h3
      rw [htq] at hD
      simp at hD ⊢
      omega
    · simp only [if_true, Int.sub_zero]
      rcases is with h | h | ⟨E, e1, e2, h⟩
      · have : (if touches q D s = true then q.sup s else 0) ≤ q.sup s := by
          have := hp s hs
          split <;> omega
        omega
      · have h1 := hl fun b => D b && !decide (b = r)
        have h2 : touches q (fun b => D b && !decide (b = r)) s = false := by
          cases h : touches q (fun b => D b && !decide (b = r)) s
          · rfl
          · obtain ⟨b, h1, h2, h3⟩ := touches_iff.1 h
            simp at h2
            rw [hno b h1 h2.1 h2.2] at h3
            cases h3
        rw [lack_cov q hs, h2] at h1
        have h3 : needN q D = needN q (fun b => D b && !decide (b = r)) + q.need r := by
          unfold needN
          rw [sumN_at (n := q.m) (s := r) (f := fun b => if (D b && !decide (b = r)) = true then q.need b else 0) (g := fun b => if D b = true then q.need b else 0) (v := q.need r) hr (by simp [hDr]) (fun i hi => by simp [hi])]
        have h4 := cov_mono q s hp (D := fun b => D b && !decide (b = r)) (E := D) (fun b h => by simp at h; exact h.1)
        simp at h1
        omega
      · have h1 := hl fun b => D b || E b
        have h2 := hl fun b => D b && E b
        have h3 : touches q (fun b => D b || E b) s = true := by rw [touches_or, e2, Bool.or_true]
        have h4 : touches q (fun b => D b && E b) s = false := by
          cases h : touches q (fun b => D b && E b) s
          · rfl
          · obtain ⟨b, g1, g2, g3⟩ := touches_iff.1 h
            simp at g2
            rw [hno b g1 g2.1 (fun e => by rw [e, e1] at g2; cases g2.2)] at g3
            cases g3
        rw [lack_cov q hs, if_pos h3] at h1
        rw [lack_cov q hs, h4] at h2
        rw [lack_cov q hs E, if_pos e2] at h
        have h5 := need_split q D E
        have h6 := cov_split q s hp D E
        simp at h2
        omega
/-- amounts already given, in order -/
def placed (s r k b : Nat) : Bool := decide (k < s) || (decide (k = s) && decide (b < r))
def mergeA (a c : Nat → Nat → Int) (m s r k b : Nat) : Int := if placed s r k b = true ∧ b < m then a k b else c k b
def restA (a : Nat → Nat → Int) (m s r k b : Nat) : Int := if placed s r k b = true ∧ b < m then 0 else a k b
structure Resid (p : Pb) (a : Nat → Nat → Int) (q : Pb) (s r : Nat) : Prop where
  n : q.n = p.n
  m : q.m = p.m
  up : ∀ c, (Bf.Flow q c fun _ => 0) → Bf.Flow p (mergeA a c p.m s r) fun _ => 0
  dn : Bf.Flow q (restA a p.m s r) fun _ => 0
theorem Resid.start {p : Pb} {a : Nat → Nat → Int} (h : Bf.Flow p a fun _ => 0) : Resid p a p 0 0 := by
  have e : ∀ k b, placed 0 0 k b = false := fun k b => by simp [placed]
  exact ⟨rfl, rfl, fun c hc => Flow.congr hc fun k _ b _ => by simp [mergeA, e], Flow.congr h fun k _ b _ => by simp [restA, e]⟩
theorem placed_succ (s r k b : Nat) : placed s (r + 1) k b = (placed s r k b || (decide (k = s) && decide (b = r))) := by
  unfold placed
  rw [Bool.eq_iff_iff]
  simp
  omega
theorem Resid.step {p : Pb} {a : Nat → Nat → Int} {q : Pb} {s r : Nat} (h : Resid p a q s r) (hs : s < p.n) (hr : r < p.m) (hf : q.fits s r = true) : Resid p a (afterP q s r (a s r)) s (r + 1) := by
  have hn := h.n
  have hm := h.m
  have hsr : placed s r s r = false := by simp [placed]
  have hrs : restA a p.m s r s r = a s r := by unfold restA; rw [hsr]; simp
  have hnn := h.dn.nn s (by omega) r (by omega)
  rw [hrs] at hnn
  refine ⟨hn, hm, fun c hc => ?_, ?_⟩
  · have hz : c s r = 0 := by
      by_cases e : c s r = 0
      · exact e
      · have := hc.ok s (by show s < q.n; omega) r (by show r < q.m; omega) e
        simp [afterP] at this
    refine Flow.congr (h.up _ (flow_add (by omega) (by omega) hf hnn hc)) fun k _ b _ => ?_
    unfold mergeA addAt
    rw [placed_succ]
    by_cases e : k = s ∧ b = r
    · obtain ⟨rfl, rfl⟩ := e
      rw [hsr]
      simp [hr, hz]
    · have e2 : (decide (k = s) && decide (b = r)) = false := by
        simp
        omega
      rw [e2, Bool.or_false, if_neg e]
  · have h1 := flow_sub (q := q) (s := s) (r := r) (by omega) (by omega) h.dn
    rw [hrs] at h1
    refine Flow.congr h1 fun k _ b _ => ?_
    unfold addAt restA
    rw [placed_succ]
    by_cases e : k = s ∧ b = r
    · obtain ⟨rfl, rfl⟩ := e
      rw [hsr]
      simp [hr]
      omega
    · have e2 : (decide (k = s) && decide (b = r)) = false := by
        simp
        omega
      rw [e2, Bool.or_false, if_neg e]
theorem Resid.zero {p : Pb} {a : Nat → Nat → Int} {q : Pb} {s r : Nat} (h : Resid p a q s r) (hs : s < p.n) (hr : r < p.m) (hf : q.fits s r = false) : a s r = 0 := by
  have hn := h.n
  have hm := h.m
  have hsr : placed s r s r = false := by simp [placed]
  have hrs : restA a p.m s r s r = a s r := by unfold restA; rw [hsr]; simp
  by_cases e : a s r = 0
  · exact e
  · have := h.dn.ok s (by omega) r (by omega) (by rw [hrs]; exact e)
    rw [hf] at this; cases this
theorem Resid.skip {p : Pb} {a : Nat → Nat → Int} {q : Pb} {s r : Nat} (h : Resid p a q s r) (hs : s < p.n) (hr : r < p.m) (hf : q.fits s r = false) : Resid p a q s (r + 1) := by
  have hn := h.n
  have hm := h.m
  have hsr : placed s r s r = false := by simp [placed]
  have h0 := h.zero hs hr hf
  refine ⟨hn, hm, fun c hc => ?_, ?_⟩
  · have hz : c s r = 0 := by
      by_cases e : c s r = 0
      · exact e
      · have := hc.ok s (by omega) r (by omega) e
        rw [hf] at this; cases this
    refine Flow.congr (h.up _ hc) fun k _ b _ => ?_
    unfold mergeA
    rw [placed_succ]
    by_cases e : k = s ∧ b = r
    · obtain ⟨rfl, rfl⟩ := e
      rw [hsr]
      simp [hz, h0]
    · have e2 : (decide (k = s) && decide (b = r)) = false := by
        simp
        omega
      rw [e2, Bool.or_false]
  · refine Flow.congr h.dn fun k _ b _ => ?_
    unfold restA
    rw [placed_succ]
    by_cases e : k = s ∧ b = r
    · obtain ⟨rfl, rfl⟩ := e
      rw [hsr]
      simp [h0]
    · have e2 : (decide (k = s) && decide (b = r)) = false := by
        simp
        omega
      rw [e2, Bool.or_false]
theorem placed_row (s m k b : Nat) (hb : b < m) : placed (s + 1) 0 k b = placed s m k b := by
  unfold placed
  rw [Bool.eq_iff_iff]
  simp
  omega
theorem Resid.row {p : Pb} {a : Nat → Nat → Int} {q : Pb} {s : Nat} (h : Resid p a q s p.m) : Resid p a q (s + 1) 0 := by
  refine ⟨h.n, h.m, fun c hc => Flow.congr (h.up c hc) fun k _ b _ => ?_, Flow.congr h.dn fun k _ b _ => ?_⟩
  · unfold mergeA
    by_cases hb : b < p.m
    · rw [placed_row s p.m k b hb]
    · simp [hb]
  · unfold restA
    by_cases hb : b < p.m
    · rw [placed_row s p.m k b hb]
    · simp [hb]
/-- as much as possible is what the greatest allocation has -/
theorem Resid.room {p : Pb} {a : Nat → Nat → Int} {q : Pb} {s r : Nat} (hmax : LexMax p a) (h : Resid p a q s r) (hs : s < p.n) (hr : r < p.m) (hf : q.fits s r = true) (hp : ∀ k, k < q.n → 0 ≤ q.sup k) (hn : ∀ b, b < q.m → 0 ≤ q.need b) {v : Int} (l1 : v ≤ q.sup s) (l2 : v ≤ q.need r)
    (le : ∀ D : Nat → Bool, D r = false → touches q D s = true → v ≤ - lackOf q D) (is : v = q.sup s ∨ v = q.need r ∨ ∃ E : Nat → Bool, E r = false ∧ touches q E s = true ∧ v = - lackOf q E) : v = a s r := by
  have hqn := h.n
  have hqm := h.m
  have hsr : placed s r s r = false := by simp [placed]
  have hrs : restA a p.m s r s r = a s r := by unfold restA; rw [hsr]; simp
  have h1 : a s r ≤ v := by
    rcases is with e | e | ⟨E, e1, e2, e⟩
    · have := sumN_le_of_mem (f := restA a p.m s r s) (n := q.m + 1) (k := r) (fun b hb => h.dn.nn s (by omega) b (by omega)) (by omega)
      rw [h.dn.row s (by omega), hrs] at this
      omega
    · have := sumN_le_of_mem (f := fun k => restA a p.m s r k r) (n := q.n) (k := s) (fun k hk => h.dn.nn k hk r (by omega)) (by omega)
      have h2 : (0 : Int) + sumN q.n (fun k => restA a p.m s r k r) = q.need r := h.dn.col r (by omega)
      simp only [hrs] at this
      omega
    · have := flow_le_lack h.dn (s := s) (r := r) (by omega) (by omega) e1 e2
      rw [hrs] at this
      omega
  obtain ⟨h0, c, hc⟩ := room_feas hp hn ⟨_, h.dn⟩ (s := s) (r := r) (by omega) (by omega) l1 l2 le is
  have hz : c s r = 0 := by
    by_cases e : c s r = 0
    · exact e
    · have := hc.ok s (by show s < q.n; omega) r (by show r < q.m; omega) e
      simp [afterP] at this
  have h2 := hmax.2 _ (h.up _ (flow_add (by omega) (by omega) hf h0 hc)) s hs r hr (fun k hk b hb => by
    unfold mergeA
    rw [if_pos ⟨by simp [placed, hk], hb⟩]) (fun b hb => by
    unfold mergeA
    rw [if_pos ⟨by simp [placed, hb], by omega⟩])
  unfold mergeA addAt at h2
  rw [hsr] at h2
  simp [hz] at h2
  omega
end Go.Proofs.Ytgnipfjjkliibaa

/-
  Matching: the contract of the reference's Flow.
  Conditions: none.
-/
namespace Go.Proofs.Ytgnipfjjkliibaa
open Go Bf
attribute [local irreducible] Tr Exec Stab HasTy Go.Addr.add IntKind.wrap
theorem RoomV.amount {can : List (List Bool)} {left op : List Int} (hv : Vld can left op) {p : Pb} {a : Nat → Nat → Int} (hmax : LexMax p a) {s r : Nat} (hR : Resid p a (pbOf can left op) s r) (hs : s < left.length) (hr : r < op.length) (hf : (can.getD s []).getD r false = true) {v : Int} (h : RoomV can left op s r (2 ^ op.length) v) : v = a s r ∧ 0 ≤ v := by
  have hn := hR.n
  have hm := hR.m
  have e : v = a s r := by
    refine hR.room hmax (by rw [← hn]; exact hs) (by rw [← hm]; exact hr) hf hv.sup0 hv.need0 h.l1 h.l2 (fun D hD ht => ?_) ?_
    · rw [lackOf_bits hv]
      obtain ⟨b, b1, b2, b3⟩ := touches_iff.1 ht
      have b1' : b < op.length := b1
      have htb : (bitsOf D op.length).testBit b = true := by rw [bitsOf_bit]; simp [b1', b2]
      have h0 : bitsOf D op.length ≠ 0 := fun e => by rw [e] at htb; simp at htb
      refine h.le _ (by omega) (bitsOf_lt _ _) (by rw [bitsOf_bit, hD, Bool.and_false]) ?_
      rw [touch_bits hv hs]
      exact touches_iff.2 ⟨b, b1, htb, b3⟩
    · rcases h.is with h | h | ⟨set, -, -, h1, h2, h3⟩
      · exact .inl h
      · exact .inr (.inl h)
      · refine .inr (.inr ⟨fun b => set.testBit b, h1, ?_, by rw [h3, lackB_eq hv]⟩)
        rw [touch_bits hv hs] at h2
        exact h2
  refine ⟨e, ?_⟩
  rw [e]
  exact hmax.1.nn s (by rw [← hn]; exact hs) r (by rw [← hm]; exact Nat.le_of_lt hr)
theorem Vld.after {can : List (List Bool)} {left op : List Int} (hv : Vld can left op) {s r : Nat} {row : List Bool} (hrow : can[s]? = some row) {v x y : Int} (h0 : 0 ≤ v) (hx : left[s]? = some x) (hy : op[r]? = some y) (hvx : v ≤ x) (hvy : v ≤ y) : Vld (can.set s (row.set r false)) (left.set s (x - v)) (op.set r (y - v)) := by
  refine ⟨by simpa using hv.ls, by simpa using hv.ln, by simpa using hv.lf, fun q hq => ?_, fun z hz => ?_, fun z hz => ?_⟩
  · rw [List.length_set]
    rcases List.mem_or_eq_of_mem_set hq with hq | rfl
    · exact hv.rows q hq
    · rw [List.length_set]; exact hv.rows row (List.mem_of_getElem? hrow)
  · rcases List.mem_or_eq_of_mem_set hz with hz | rfl
    · exact hv.rs z hz
    · have := hv.rs x (List.mem_of_getElem? hx); omega
  · rcases List.mem_or_eq_of_mem_set hz with hz | rfl
    · exact hv.rn z hz
    · have := hv.rn y (List.mem_of_getElem? hy); omega
end Go.Proofs.Ytgnipfjjkliibaa

/-
  Honour, plain: what the functions answer, computed.
  Conditions: none.
-/
namespace Go.Proofs.Ytgnipfjjkliibaa
open Go Bf
def feasC (fits : List (List Bool)) (sup need : List Int) : Bool := decide (∀ s, s ≤ 2 ^ need.length - 1 → (1 ≤ s → s &&& (2 ^ need.length - 1) = s → lackB fits sup need s ≤ 0))
theorem feasC_iff {fits : List (List Bool)} {sup need : List Int} (hv : Vld fits sup need) : Feas (pbOf fits sup need) ↔ feasC fits sup need = true := by
  rw [feas_poss hv, feasC, decide_eq_true_iff]
  exact ⟨fun h s h1 h2 h3 => h s h2 h1 h3, fun h s h1 h2 h3 => h s h2 h1 h3⟩
def accC (p : (Nat → Bool) → Bool) (ask : Nat → Bool) : Nat → Nat → Bool
  | 0 => fun _ => false
  | j + 1 => if (ask j && p (fun b => accC p ask j b || decide (b = j))) = true then fun b => accC p ask j b || decide (b = j) else accC p ask j
theorem acc_comp {P : (Nat → Bool) → Prop} {p : (Nat → Bool) → Bool} {ask : Nat → Bool} (h : ∀ S, P S ↔ p S = true) : ∀ j, acc P ask j = accC p ask j
  | 0 => rfl
  | j + 1 => by
    have ih := acc_comp (ask := ask) h j
    rw [accC]
    by_cases c : ask j = true ∧ P (fun b => acc P ask j b || decide (b = j))
    · rw [acc_yes c.1 c.2, ih]
      rw [ih] at c
      rw [if_pos (by rw [c.1, Bool.true_and]; exact (h _).1 c.2)]
    · rw [acc_no c, ih]
      rw [ih] at c
      rw [if_neg]
      intro hc
      obtain ⟨c1, c2⟩ := Bool.and_eq_true_iff.1 hc
      exact c ⟨c1, (h _).2 c2⟩
def failC (x : Fx) (s : St) (e : Nat) : List Nat := (List.range e).filter fun j => askF s j && !accC (fun S => feasC (tabL x.fits x.due s.dy) s.am (mskL s.nd S)) (askF s) (j + 1) j
theorem msk_vld {x : Fx} {s : St} (h : Fit x s) (S : Nat → Bool) : Vld (tabL x.fits x.due s.dy) s.am (mskL s.nd S) :=
  ⟨h.l64, by rw [mskL_length]; exact h.r64, by rw [tabL_length]; exact h.dyl, fun r hr => by rw [tabL_row hr, mskL_length]; exact h.dul, h.amr, mskL_rng h.ndr⟩
theorem failF_comp {x : Fx} {s : St} (h : Fit x s) (e : Nat) : failF x s e = failC x s e := by
  have hP : ∀ S, srvP x s S ↔ feasC (tabL x.fits x.due s.dy) s.am (mskL s.nd S) = true := fun S => feasC_iff (msk_vld h S)
  unfold failF failC failL
  rw [show (fun j => askF s j && !acc (srvP x s) (askF s) (j + 1) j) = fun j => askF s j && !accC (fun S => feasC (tabL x.fits x.due s.dy) s.am (mskL s.nd S)) (askF s) (j + 1) j from funext fun j => by rw [acc_comp hP]]
def markC (x : Fx) (s : St) (at_ : Nat) : St := { s with br := (List.range s.br.length).map fun j => if j ∈ failC x s s.nd.length then (at_ : Int) else s.br.getD j 0 }
theorem markF_comp {x : Fx} {s : St} (h : Fit x s) (at_ : Nat) : markF x s at_ = markC x s at_ := by
  unfold markF markC
  rw [failF_comp h]
def stepC (x : Fx) (s : St) (h : Hp) (at_ : Nat) : Option St :=
  if h.kind = 1 then
    (if (0 ≤ h.sup ∧ h.sup ≤ (s.am.length : Int) - 1) ∧ (1 ≤ h.amt ∧ h.amt ≤ s.am.getD h.sup.toNat 0) then some (markC x { s with am := s.am.set h.sup.toNat (s.am.getD h.sup.toNat 0 - h.amt) } at_) else none)
  else if h.kind = 2 then
    (if (0 ≤ h.sup ∧ h.sup ≤ (s.am.length : Int) - 1) ∧ (s.dy.getD h.sup.toNat 0 ≤ h.day ∧ h.day ≤ 1024) then some (markC x { s with dy := s.dy.set h.sup.toNat h.day } at_) else none)
  else if h.kind = 3 then
    (if ((0 ≤ h.sup ∧ h.sup ≤ (s.am.length : Int) - 1) ∧ (0 ≤ h.req ∧ h.req ≤ (s.nd.length : Int) - 1)) ∧ (s.br.getD h.req.toNat 0 < 0 ∧ ((x.fits.getD h.sup.toNat []).getD h.req.toNat false = true ∧ s.dy.getD h.sup.toNat 0 ≤ x.due.getD h.req.toNat 0) ∧ s.dy.getD h.sup.toNat 0 ≤ h.day ∧ h.day ≤ x.due.getD h.req.toNat 0) ∧ (1 ≤ h.amt ∧ h.amt ≤ min (s.am.getD h.sup.toNat 0) (s.nd.getD h.req.toNat 0)) ∧
        failC x { s with am := s.am.set h.sup.toNat (s.am.getD h.sup.toNat 0 - h.amt), nd := s.nd.set h.req.toNat (s.nd.getD h.req.toNat 0 - h.amt) } s.nd.length = [] then
      some { s with am := s.am.set h.sup.toNat (s.am.getD h.sup.toNat 0 - h.amt), nd := s.nd.set h.req.toNat (s.nd.getD h.req.toNat 0 - h.amt) } else none)
  else none
theorem dy_rng {x : Fx} {s : St} (hf : Fit x s) (i : Nat) : 0 ≤ s.dy.getD i 0 := by
  by_cases h : i < s.dy.length
  · exact (getD_all hf.dyr h).1
  · rw [List.getD_eq_getElem?_getD, List.getElem?_eq_none (by omega)]; exact Int.le_refl _
theorem stepF_comp {x : Fx} {s : St} (hf : Fit x s) (h : Hp) (at_ : Nat) : stepF x s h at_ = stepC x s h at_ := by
  unfold stepF stepC
  have hr := getD_rng hf.amr h.sup.toNat
  have hr2 := getD_rng hf.ndr h.req.toNat
  have hr3 := dy_rng hf h.sup.toNat
  by_cases k1 : h.kind = 1
  · rw [if_pos k1, if_pos k1]
    by_cases c : (0 ≤ h.sup ∧ h.sup ≤ (s.am.length : Int) - 1) ∧ (1 ≤ h.amt ∧ h.amt ≤ s.am.getD h.sup.toNat 0)
    · rw [if_pos c, if_pos c, markF_comp (hf.setAm (by omega) _)]
    · rw [if_neg c, if_neg c]
  rw [if_neg k1, if_neg k1]
  by_cases k2 : h.kind = 2
  · rw [if_pos k2, if_pos k2]
    by_cases c : (0 ≤ h.sup ∧ h.sup ≤ (s.am.length : Int) - 1) ∧ (s.dy.getD h.sup.toNat 0 ≤ h.day ∧ h.day ≤ 1024)
    · rw [if_pos c, if_pos c, markF_comp (hf.setDy (by omega) _)]
    · rw [if_neg c, if_neg c]
  rw [if_neg k2, if_neg k2]
  by_cases k3 : h.kind = 3
  · rw [if_pos k3, if_pos k3]
    by_cases c1 : (1 ≤ h.amt ∧ h.amt ≤ min (s.am.getD h.sup.toNat 0) (s.nd.getD h.req.toNat 0))
    · have hf2 : Fit x { s with am := s.am.set h.sup.toNat (s.am.getD h.sup.toNat 0 - h.amt), nd := s.nd.set h.req.toNat (s.nd.getD h.req.toNat 0 - h.amt) } := (hf.setAm (v := s.am.getD h.sup.toNat 0 - h.amt) (by omega) h.sup.toNat).setNd (v := s.nd.getD h.req.toNat 0 - h.amt) (by show 0 ≤ s.nd.getD h.req.toNat 0 - h.amt ∧ s.nd.getD h.req.toNat 0 - h.amt ≤ 1048576; omega) h.req.toNat
      rw [failF_comp hf2]
    · rw [if_neg (fun c => c1 c.2.2.1), if_neg (fun c => c1 c.2.2.1)]
  · rw [if_neg k3, if_neg k3]
def stepsC (x : Fx) : St → Nat → List Hp → Option St
  | s, _, [] => some s
  | s, at_, h :: l => (stepC x s h at_).bind fun s' => stepsC x s' (at_ + 1) l
theorem stepsF_comp {x : Fx} : ∀ (l : List Hp) (s : St) (at_ : Nat), Fit x s → stepsF x s at_ l = stepsC x s at_ l
  | [], _, _, _ => rfl
  | h :: l, s, at_, hf => by
    rw [stepsF, stepsC, ← stepF_comp hf]
    cases hs : stepF x s h at_ with
    | none => rfl
    | some t => exact stepsF_comp l t (at_ + 1) ((stepF_some.1 hs).keep hf).1
instance (b : Bk) : Decidable (formedB b) := by unfold formedB; infer_instance
def runC (b : Bk) (l : List Hp) : Option St := if formedB b ∧ failC (fxB b) (beginF b) b.reqs.length = [] then stepsC (fxB b) (beginF b) 0 l else none
theorem runF_comp (b : Bk) (l : List Hp) : runF b l = runC b l := by
  unfold runC
  by_cases hf : formedB b
  · have hfit := begin_fit hf
    by_cases hv : failC (fxB b) (beginF b) b.reqs.length = []
    · rw [if_pos ⟨hf, hv⟩, run_yes ⟨hf, by rw [failF_comp hfit]; exact hv⟩, stepsF_comp _ _ _ hfit]
    · rw [if_neg (fun h => hv h.2), run_no (fun h => hv (by rw [← failF_comp hfit]; exact h.2))]
  · rw [if_neg (fun h => hf h.1), run_no (fun h => hf h.1)]
def becLC (b : Bk) (l : List Hp) (br : List Int) (j q : Nat) : Nat → List Nat → List Nat
  | 0, left => left
  | i + 1, left => becLC b l br j q i (if q ∈ failC (fxB b) (withF b l br j (left.eraseIdx i)) (q + 1) then left.eraseIdx i else left)
theorem becL_comp {b : Bk} {l : List Hp} {s : St} (h : runF b l = some s) {j q : Nat} (hj : j < l.length) : ∀ (i : Nat) (left : List Nat), left.Sublist (List.range (j + 1)) → (∀ t ∈ left, (l.getD t zH).kind ≠ 3) → becL b l s.br j q i left = becLC b l s.br j q i left
  | 0, _, _, _ => rfl
  | i + 1, left, hs, hn => by
    have hs2 := (List.eraseIdx_sublist left i).trans hs
    have hn2 : ∀ t ∈ left.eraseIdx i, (l.getD t zH).kind ≠ 3 := fun t ht => hn t ((List.eraseIdx_sublist left i).subset ht)
    rw [becL, becLC, failF_comp (with_fit h hj hs2 hn2)]
    split
    · exact becL_comp h hj i _ hs2 hn2
    · exact becL_comp h hj i _ hs hn
def becC (b : Bk) (l : List Hp) (br : List Int) (q : Nat) : List Nat := becLC b l br (br.getD q 0).toNat q (notShip l ((br.getD q 0).toNat + 1)).length (notShip l ((br.getD q 0).toNat + 1))
theorem becF_comp {b : Bk} {l : List Hp} {s : St} (h : runF b l = some s) {q : Nat} (hq : q < b.reqs.length) (hb : 0 ≤ s.br.getD q 0) : becF b l s.br q = becC b l s.br q := by
  have hj : (s.br.getD q 0).toNat < l.length := by
    rcases run_brk h hq with e | ⟨t, e1, e2, -⟩
    · omega
    · omega
  exact becL_comp h hj _ _ (notShip_sub _ _) (fun t ht => (notShip_mem.1 ht).2)
def brkC (k : Bk) (l : List Hp) (s : St) : List (Nat × List Nat) := ((List.range s.br.length).filter fun q => decide (0 ≤ s.br.getD q 0)).map fun q => (q, becC k l s.br q)
theorem brkF_comp {k : Bk} {l : List Hp} {s : St} (h : runF k l = some s) : brkF k l s = brkC k l s := by
  unfold brkF brkC brkN
  apply List.map_congr_left
  intro q hq
  obtain ⟨h1, h2⟩ := List.mem_filter.1 hq
  rw [becF_comp h (by have := (run_len h).2.2.2; have := List.mem_range.1 h1; omega) (of_decide_eq_true h2)]
def sampB : Bk := ⟨0, [⟨0, 0, 0, 0, 0, 4⟩, ⟨1, 0, 0, 2, 0, 3⟩], [⟨0, 0, 0, 5, 0, 4⟩, ⟨1, 0, 0, 3, 0, 3⟩], [[true, true], [true, false]], 0⟩
theorem samp0 : runF sampB [] = some ⟨[4, 3], [0, 2], [4, 3], [-1, -1]⟩ := by rw [runF_comp]; kernel_rfl
theorem samp1 : runF zB [] = some ⟨[], [], [], []⟩ := by rw [runF_comp]; kernel_rfl
theorem samp2 : runF zB [⟨1, 0, 0, 0, 1⟩] = none := by rw [runF_comp]; kernel_rfl
theorem samp3 : runF sampB [⟨1, 1, 0, 0, 1⟩] = some ⟨[4, 2], [0, 2], [4, 3], [-1, 0]⟩ := by rw [runF_comp]; kernel_rfl
theorem samp4 : runF sampB [⟨3, 0, 0, 4, 2⟩] = none := by rw [runF_comp]; kernel_rfl
theorem samp5 : runF sampB [⟨3, 0, 0, 4, 1⟩] = some ⟨[3, 3], [0, 2], [3, 3], [-1, -1]⟩ := by rw [runF_comp]; kernel_rfl
theorem samp6 : runF sampB [⟨3, 0, 0, 4, 1⟩, ⟨2, 1, 0, 6, 0⟩] = some ⟨[3, 3], [0, 6], [3, 3], [-1, 1]⟩ := by rw [runF_comp]; kernel_rfl
end Go.Proofs.Ytgnipfjjkliibaa

/-
  Honour, plain: what the functions answer of the sample.
  Conditions: none.
-/
namespace Go.Proofs.Ytgnipfjjkliibaa
open Go Bf
theorem sv1 : doF zB [] = (zB, 0) := by rw [doF, samp1]; rfl
theorem sv2 : brokenF sampB [] = ([], 0) := by rw [brokenF, samp0]; show (brkF sampB [] _, (0 : Int)) = _; rw [brkF_comp samp0]; kernel_rfl
theorem sv3 : doF zB [⟨1, 0, 0, 0, 1⟩] = (zB, 330) := by rw [doF, samp2]
theorem sv4 : shipL sampB [] 1024 = ([], 330) := by rw [shipL, samp0]; exact if_neg (by decide)
theorem sv5 : doF sampB [⟨1, 1, 0, 0, 1⟩] = (⟨0, [⟨0, 0, 0, 0, 0, 4⟩, ⟨1, 0, 0, 2, 0, 2⟩], [⟨0, 0, 0, 5, 0, 4⟩, ⟨1, 0, 0, 3, 0, 0⟩], [[true, true], [true, false]], 0⟩, 0) := by rw [doF, samp3]; kernel_rfl
theorem sv6 : brokenF sampB [⟨1, 1, 0, 0, 1⟩] = ([(1, [0])], 0) := by rw [brokenF, samp3]; show (brkF sampB _ _, (0 : Int)) = _; rw [brkF_comp samp3]; kernel_rfl
theorem sv8 : doF sampB [⟨3, 0, 0, 4, 2⟩] = (zB, 330) := by rw [doF, samp4]
theorem sv9 : doF sampB [⟨3, 0, 0, 4, 1⟩] = (⟨0, [⟨0, 0, 0, 0, 0, 3⟩, ⟨1, 0, 0, 2, 0, 3⟩], [⟨0, 0, 0, 5, 0, 3⟩, ⟨1, 0, 0, 3, 0, 3⟩], [[true, true], [true, false]], 0⟩, 0) := by rw [doF, samp5]; kernel_rfl
theorem sv10 : brokenF sampB [⟨3, 0, 0, 4, 1⟩, ⟨2, 1, 0, 6, 0⟩] = ([(1, [1])], 0) := by rw [brokenF, samp6]; show (brkF sampB _ _, (0 : Int)) = _; rw [brkF_comp samp6]; kernel_rfl
theorem samp_al {a : Nat → Nat → Int} (h : LexMax (pbOf [[true, true], [true, false]] [4, 3] [4, 3]) a) : a 0 1 = 3 ∧ a 1 1 = 0 := by
  have h7 : a 1 1 = 0 := by
    by_cases e : a 1 1 = 0
    · exact e
    · have := h.1.ok 1 (by decide) 1 (by decide) e
      cases this
  have h6 : (0 : Int) + sumN 2 (fun k => a k 1) = 3 := h.1.col 1 (by decide)
  simp only [sumN] at h6
  omega
theorem sv7 (hex : ShipEx sampB [] 3) : shipL sampB [] 3 = ([⟨3, 0, 1, 3, 3⟩], 0) := by
  obtain ⟨a, ha⟩ := hex _ samp0 (by decide)
  rw [shipL, samp0]
  show (if (0 : Int) ≤ 3 ∧ (3 : Int) ≤ 1023 then (shipsOf (resF sampB ⟨[4, 3], [0, 2], [4, 3], [-1, -1]⟩) 3, (0 : Int)) else ([], 330)) = _
  rw [if_pos (by decide), shipsOf, alF_eq ha]
  obtain ⟨h1, h2⟩ := samp_al (a := a) (by
    have e : pbOf (resF sampB ⟨[4, 3], [0, 2], [4, 3], [-1, -1]⟩).fits (beginF (resF sampB ⟨[4, 3], [0, 2], [4, 3], [-1, -1]⟩)).am (beginF (resF sampB ⟨[4, 3], [0, 2], [4, 3], [-1, -1]⟩)).nd = pbOf [[true, true], [true, false]] [4, 3] [4, 3] := by kernel_rfl
    rw [e] at ha
    exact ha)
  have e3 : allocOf a (beginF (resF sampB ⟨[4, 3], [0, 2], [4, 3], [-1, -1]⟩)).nd.length (beginF (resF sampB ⟨[4, 3], [0, 2], [4, 3], [-1, -1]⟩)).am.length = [[a 0 0, a 0 1], [a 1 0, a 1 1]] := rfl
  have e4 : (resF sampB ⟨[4, 3], [0, 2], [4, 3], [-1, -1]⟩).reqs = [⟨0, 0, 0, 5, 0, 4⟩, ⟨1, 0, 0, 3, 0, 3⟩] := by kernel_rfl
  have e5 : (resF sampB ⟨[4, 3], [0, 2], [4, 3], [-1, -1]⟩).sups.length = 2 := rfl
  rw [e3, e4, e5, h1, h2]
  rfl
end Go.Proofs.Ytgnipfjjkliibaa

/-
  Honour: the sample.
  Conditions: none.
-/
namespace Go.Proofs.Ytgnipfjjkliibaa
open Go Bf
attribute [local irreducible] Tr Exec Stab HasTy Go.Addr.add IntKind.wrap
theorem elB (M : Mem) : ∀ l : List Bool, Elems 1 RBo M (boV l) l
  | [] => Elems.nil
  | x :: l => Elems.append (cs := [.bool x]) (xs := [x]) (Elems.one rfl rfl) (elB M l)
theorem ofB {M : Mem} {b t : Nat} {l : List Bool} (h : (box b t (boV l)).ok M) (hl : l.length ≤ 100) : Bools M (.slice (some ⟨b, 0, none⟩) l.length l.length) l := SlOf.ofBox h (by intro u hu; obtain ⟨x, _, rfl⟩ := List.mem_map.1 hu; rfl) (by omega) (elB M l)
theorem ofF2 {M : Mem} {b t : Nat} {A B : Option Addr} {c d : Nat} {x y : List Bool} (h : (box b t [.slice A x.length c, .slice B y.length d]).ok M) (hx : Bools M (.slice A x.length c) x) (hy : Bools M (.slice B y.length d) y) : Fits2 M (.slice (some ⟨b, 0, none⟩) [x, y].length [x, y].length) [x, y] :=
  SlOf.ofBox h (by intro u hu; simp only [List.mem_cons, List.not_mem_nil, or_false] at hu; rcases hu with rfl | rfl <;> rfl) (by show 2 ≤ _; omega) (Elems.append (cs := [.slice A x.length c]) (xs := [x]) (Elems.one rfl ⟨A, c, rfl, hx⟩) (Elems.one rfl ⟨B, d, rfl, hy⟩))
theorem ofS {M : Mem} {b t : Nat} {l : List Sp} (h : (box b t (l.flatMap spV)).ok M) (hl : l.length ≤ 100) : SlOf 6 RSp M (.slice (some ⟨b, 0, none⟩) l.length l.length) l := SlOf.ofBox h (flatMap_one spV_one _) (by omega) (Elems.flat (R := RSp) spV_len (fun _ => rfl) l)
theorem ofR {M : Mem} {b t : Nat} {l : List Rq} (h : (box b t (l.flatMap rqV)).ok M) (hl : l.length ≤ 100) : SlOf 6 RRq M (.slice (some ⟨b, 0, none⟩) l.length l.length) l := SlOf.ofBox h (flatMap_one rqV_one _) (by omega) (Elems.flat (R := RRq) rqV_len (fun _ => rfl) l)
theorem hpC_one (h : Hp) : ∀ u ∈ hpC h, u.oneCell' = true := by
  intro u hu
  simp only [hpC, List.mem_cons, List.not_mem_nil, or_false] at hu
  rcases hu with rfl | rfl | rfl | rfl | rfl <;> rfl
theorem ofH {M : Mem} {b t : Nat} {l : List Hp} (h : (box b t (l.flatMap hpC)).ok M) (hl : l.length ≤ 100) : SlOf 5 RHp M (.slice (some ⟨b, 0, none⟩) l.length l.length) l := SlOf.ofBox h (flatMap_one hpC_one _) (by omega) (Elems.flat (R := RHp) hpC_len (fun _ => rfl) l)
theorem ofBr1 {M : Mem} {b t : Nat} {A : Option Addr} {c : Nat} {x : Nat × List Nat} (h : (box b t [.int .i64 (x.1 : Int), .slice A x.2.length c]).ok M) (hx : Ints M (.slice A x.2.length c) (nats_ x.2)) : SlOf 2 RBr M (.slice (some ⟨b, 0, none⟩) [x].length [x].length) [x] :=
  SlOf.ofBox h (by intro u hu; simp only [List.mem_cons, List.not_mem_nil, or_false] at hu; rcases hu with rfl | rfl <;> rfl) (by show 1 ≤ _; omega) (Elems.one rfl ⟨A, c, rfl, hx⟩)
set_option maxHeartbeats 4000000 in
theorem sample_fn (M : Mem) : Fn0 Try.prog 23 [] M (fun r M' => RBk M' r sampB) := by
  refine Fn.intro Try.func23 rfl rfl Try.ntmps23 rfl fun E F => ?_
  (repeat (first | ((with_reducible refine Tr.step rfl ?_); (first | ((with_reducible refine Knd.store ?_); (refine Exec.storeW rfl rfl (tysOk.get rfl) (by repeat (first | exact Upd.here | apply Upd.there)) rfl rfl (by repeat (first | exact AllOne.nil | refine AllOne.cons (by first | rfl | assumption) ?_)) ?_)) | ((with_reducible refine Knd.alloc ?_); (refine Exec.alloc (tysOk.get rfl) rfl rfl (fun b => ?_))) | ((with_reducible refine Knd.build ?_); (refine Exec.stab rfl (Stab.build tysOk rfl rfl rfl rfl (by repeat (first | exact BuildP.nil | ((apply BuildP.one); (rfl); (rfl); (first | rfl | assumption); (repeat (first | exact SetL.z | apply SetL.s))) | ((apply BuildP.many); (rfl); (rfl); (rfl); (rfl); (repeat (first | exact PutL.nil | ((apply PutL.cons); (repeat (first | exact SetL.z | apply SetL.s))))))))) rfl ?_)) | ((with_reducible refine Knd.buildSlice ?_); (refine Exec.buildSlice (tysOk.get rfl) rfl (tysOk.get rfl) rfl rfl rfl rfl rfl (by repeat (first | exact BuildP.nil | ((apply BuildP.one); (rfl); (rfl); (first | rfl | assumption); (repeat (first | exact SetL.z | apply SetL.s))) | ((apply BuildP.many); (rfl); (rfl); (rfl); (rfl); (repeat (first | exact PutL.nil | ((apply PutL.cons); (repeat (first | exact SetL.z | apply SetL.s)))))))) rfl (fun b => ?_))))) | (with_reducible first | apply Tr.next | apply Tr.seq | apply Tr.region | apply Tr.nil | apply Tr.ret)))
  rename_i b0 b1 b2 b3 b4
  generalize b = b5
  refine Tr.publish (r := box b3 _ _) (by repeat (first | exact Del.here | apply Del.there)) (fun M1 hm1 ok1 => ?_)
  have i1 := ofB (l := [true, true]) ok1 (by decide)
  refine Tr.publish (r := box b4 _ _) (by repeat (first | exact Del.here | apply Del.there)) (fun M2 hm2 ok2 => ?_)
  have i2 := ofB (l := [true, false]) ok2 (by decide)
  refine Tr.publish (r := box b5 _ _) (by repeat (first | exact Del.here | apply Del.there)) (fun M3 hm3 ok3 => ?_)
  have i3 := ofF2 (x := [true, true]) (y := [true, false]) ok3 (i1.mono RBo.mono (hm2.trans hm3)) (i2.mono RBo.mono hm3)
  refine Tr.publish (r := box b1 _ _) (by repeat (first | exact Del.here | apply Del.there)) (fun M4 hm4 ok4 => ?_)
  have i4 := ofS (l := sampB.sups) ok4 (by decide)
  refine Tr.publish (r := box b2 _ _) (by repeat (first | exact Del.here | apply Del.there)) (fun M5 hm5 ok5 => ?_)
  have i5 := ofR (l := sampB.reqs) ok5 (by decide)
  have hlast := hm1.trans (hm2.trans (hm3.trans (hm4.trans hm5)))
  (skip)
  (refine Tr.done (by first | exact .inl rfl | exact .inr rfl) rfl (by repeat (first | exact RVs.nil | (apply RVs.cons; (exact RV.cellW (by rfl) (tysOk.get (by rfl)) (by rfl) (by repeat (first | exact Has.here | apply Has.there)) (by first | rfl | assumption))))) (by first | exact Mem.le.refl _ | assumption) (by exact ⟨[_], rfl⟩) ⟨rfl, ?_⟩)
  exact ⟨_, _, _, _, _, _, _, _, rfl, i4.mono RSp.mono hm5, i5, i3.mono RRowB.mono (hm4.trans hm5)⟩
end Go.Proofs.Ytgnipfjjkliibaa

/-
  Honour: the contract of sane.
  Conditions: none.
-/
namespace Go.Proofs.Ytgnipfjjkliibaa
open Go Bf
attribute [local irreducible] Tr Exec Stab HasTy Go.Addr.add IntKind.wrap
set_option maxHeartbeats 16000000 in
set_option maxRecDepth 20000 in
theorem sane33_fn (M0 : Mem) : Fn0 Try.prog 9 [] M0 (fun r _ => r = .bool true) := by
  refine Fn.intro Try.func9 rfl rfl Try.ntmps9 rfl fun E F => ?_
  refine Tr.seq ?_
  refine Tr.cut (α := Unit) (fun _ => ⟨205, [], [], M0, F⟩) (fun _ => True) ?_ (fun _ _ => ?_)
  · (repeat (first | ((with_reducible refine Tr.step rfl ?_); (with_reducible refine Knd.assign ?_); (refine Exec.stab rfl (Stab.assign rfl) rfl ?_)) | (with_reducible first | apply Tr.region | apply Tr.nil)))
    refine Tr.land () trivial (holds_sub (by repeat (first | exact SubFr.nil | refine SubFr.cons rfl ?_)) (by repeat (first | exact DropL.refl | apply DropL.skip)))
  first | (refine Tr.seq ?_) | (refine Tr.next ?_; refine Tr.seq ?_)
  refine Tr.cut (α := Mem × Nat × Value × Value × Value × Value × Value) (fun y => ⟨205, [(1, .pointer (some ⟨y.2.1, 0, none⟩))], [], y.1, box y.2.1 27 [y.2.2.1, y.2.2.2.1, y.2.2.2.2.1, y.2.2.2.2.2.1, y.2.2.2.2.2.2] :: F⟩) (fun y => Mem.le M0 y.1 ∧ RBk y.1 (.agg #[y.2.2.1, y.2.2.2.1, y.2.2.2.2.1, y.2.2.2.2.2.1, y.2.2.2.2.2.2]) sampB) ?_ (fun y hy => ?_)
  · skip
    (repeat ((with_reducible refine Tr.region ?_)))
    have hcall := sample_fn M0
    try dsimp only [List.length_cons, List.length_nil] at hcall
    ((refine Tr.step rfl ?_)); refine Exec.call0 rfl (hcall) rfl ?_
    clear hcall
    rintro _ N1 hm1 hB
    obtain ⟨u1, u2, u3, u4, u5, rfl, o1, o2, o3, o4, o5⟩ := hB.open5
    (repeat (first | ((with_reducible refine Tr.step rfl ?_); (first | ((with_reducible refine Knd.store ?_); (refine Exec.storeW rfl rfl (tysOk.get rfl) (by repeat (first | exact Upd.here | apply Upd.there)) rfl rfl (by repeat (first | exact AllOne.nil | refine AllOne.cons (by first | rfl | assumption) ?_)) ?_)) | ((with_reducible refine Knd.alloc ?_); (refine Exec.alloc (tysOk.get rfl) rfl rfl (fun b => ?_))))) | (with_reducible refine Tr.nil ?_)))
    refine Tr.land (N1, _, u1, u2, u3, u4, u5) ⟨hm1, hB⟩ (holds_sub (by repeat (first | exact SubFr.nil | refine SubFr.cons rfl ?_)) (by repeat (first | exact DropL.refl | apply DropL.skip)))
  obtain ⟨M1, b1, v1, v2, v3, v4, v5⟩ := y
  obtain ⟨hg1, hS⟩ := hy
  dsimp only at hg1 hS ⊢
  first | (refine Tr.seq ?_) | (refine Tr.next ?_; refine Tr.seq ?_)
  refine Tr.cut (α := Mem × Nat × Value × Value × Value × Value × Value) (fun y => ⟨205, [(1, .pointer (some ⟨b1, 0, none⟩)), (2, .pointer (some ⟨y.2.1, 0, none⟩)), (3, .int .i64 0)], [], y.1, box y.2.1 27 [y.2.2.1, y.2.2.2.1, y.2.2.2.2.1, y.2.2.2.2.2.1, y.2.2.2.2.2.2] :: box b1 27 [v1, v2, v3, v4, v5] :: F⟩) (fun y => Mem.le M1 y.1 ∧ RBk y.1 (.agg #[y.2.2.1, y.2.2.2.1, y.2.2.2.2.1, y.2.2.2.2.2.1, y.2.2.2.2.2.2]) zB) ?_ (fun y hy => ?_)
  · skip
    (repeat (first | ((with_reducible refine Tr.step rfl ?_); (with_reducible refine Knd.build ?_); (refine Exec.stab rfl (Stab.build tysOk rfl rfl rfl rfl (by repeat (exact BuildP.nil))) rfl ?_)) | (with_reducible refine Tr.region ?_)))
    have hcall := do_fn M1 _ zB (RBk.zero _) none 0 ([] : List Hp) (SlOf.nil _ _ _)
    try dsimp only [List.length_cons, List.length_nil] at hcall
    ((refine Tr.step rfl ?_)); refine Exec.call0 rfl (hcall) rfl ?_
    clear hcall
    rintro _ N1 hm1 ⟨w, rfl, hB⟩
    rw [sv1] at hB ⊢
    dsimp only at hB ⊢
    obtain ⟨u1, u2, u3, u4, u5, rfl, o1, o2, o3, o4, o5⟩ := hB.open5
    (repeat (first | ((with_reducible refine Tr.step rfl ?_); (first | ((with_reducible refine Knd.move ?_); (refine Exec.stab rfl (Stab.move rfl) rfl ?_)) | ((with_reducible refine Knd.assign ?_); (refine Exec.stab rfl (Stab.assign rfl) rfl ?_)) | ((with_reducible refine Knd.store ?_); (refine Exec.storeW rfl rfl (tysOk.get rfl) (by repeat (first | exact Upd.here | apply Upd.there)) rfl rfl (by repeat (first | exact AllOne.nil | refine AllOne.cons (by first | rfl | assumption) ?_)) ?_)) | ((with_reducible refine Knd.alloc ?_); (refine Exec.alloc (tysOk.get rfl) rfl rfl (fun b => ?_))) | ((with_reducible refine Knd.extract ?_); (refine Exec.stab rfl (Stab.extract rfl rfl) rfl ?_)))) | (with_reducible refine Tr.nil ?_)))
    refine Tr.land (N1, _, u1, u2, u3, u4, u5) ⟨hm1, hB⟩ (holds_sub (by repeat (first | exact SubFr.nil | refine SubFr.cons rfl ?_)) (by repeat (first | exact DropL.refl | apply DropL.skip)))
  obtain ⟨M2, b2, n1, n2, n3, n4, n5⟩ := y
  obtain ⟨hg2, hN⟩ := hy
  dsimp only at hg2 hN ⊢
  replace hS := hS.mono hg2
  first | (refine Tr.seq ?_) | (refine Tr.next ?_; refine Tr.seq ?_)
  refine Tr.cut (α := Mem × Option Addr × Nat) (fun y => ⟨205, [(1, .pointer (some ⟨b1, 0, none⟩)), (2, .pointer (some ⟨b2, 0, none⟩)), (3, .int .i64 0), (4, .slice y.2.1 0 y.2.2), (5, .int .i64 0)], [], y.1, box b2 27 [n1, n2, n3, n4, n5] :: box b1 27 [v1, v2, v3, v4, v5] :: F⟩) (fun y => Mem.le M2 y.1) ?_ (fun y hy => ?_)
  · skip
    (repeat (first | ((with_reducible refine Tr.step rfl ?_); (with_reducible refine Knd.load ?_); (refine Exec.stab rfl (Stab.loadW rfl (tysOk.get rfl) rfl (by repeat (first | exact Has.here | apply Has.there)) rfl) rfl ?_)) | (with_reducible refine Tr.region ?_)))
    have hcall := broken_fn M2 _ sampB hS none 0 ([] : List Hp) (SlOf.nil _ _ _) (by decide)
    try dsimp only [List.length_cons, List.length_nil] at hcall
    ((refine Tr.step rfl ?_)); refine Exec.call0 rfl (hcall) rfl ?_
    clear hcall
    rintro _ N1 hm1 ⟨A9, c9, rfl, hB⟩
    rw [sv2] at hB ⊢
    dsimp only at hB ⊢
    (repeat (first | ((with_reducible refine Tr.step rfl ?_); (first | ((with_reducible refine Knd.move ?_); (refine Exec.stab rfl (Stab.move rfl) rfl ?_)) | ((with_reducible refine Knd.assign ?_); (refine Exec.stab rfl (Stab.assign rfl) rfl ?_)) | ((with_reducible refine Knd.extract ?_); (refine Exec.stab rfl (Stab.extract rfl rfl) rfl ?_)))) | (with_reducible refine Tr.nil ?_)))
    refine Tr.land (N1, A9, c9) hm1 (holds_sub (by repeat (first | exact SubFr.nil | refine SubFr.cons rfl ?_)) (by repeat (first | exact DropL.refl | apply DropL.skip)))
  obtain ⟨M3, A3, c3⟩ := y
  have hg3 := hy
  dsimp only at hg3 ⊢
  replace hS := hS.mono hg3
  replace hN := hN.mono hg3
  first | (refine Tr.seq ?_) | (refine Tr.next ?_; refine Tr.seq ?_)
  refine Tr.cut (α := Mem) (fun y => ⟨205, [(1, .pointer (some ⟨b1, 0, none⟩)), (2, .pointer (some ⟨b2, 0, none⟩)), (3, .int .i64 0), (4, .slice A3 0 c3), (5, .int .i64 0), (7, .int .i64 330)], [], y, box b2 27 [n1, n2, n3, n4, n5] :: box b1 27 [v1, v2, v3, v4, v5] :: F⟩) (fun y => Mem.le M3 y) ?_ (fun y hy => ?_)
  · skip
    (repeat (first | ((with_reducible refine Tr.step rfl ?_); (first | ((with_reducible refine Knd.build ?_); (refine Exec.stab rfl (Stab.build tysOk rfl rfl rfl rfl (by repeat (first | exact BuildP.nil | ((apply BuildP.one); (rfl); (rfl); (first | rfl | assumption); (repeat (first | exact SetL.z | apply SetL.s)))))) rfl ?_)) | ((with_reducible refine Knd.buildSlice ?_); (refine Exec.buildSlice (tysOk.get rfl) rfl (tysOk.get rfl) rfl rfl rfl rfl rfl (by repeat (first | exact BuildP.nil | ((apply BuildP.many); (rfl); (rfl); (rfl); (rfl); (repeat (first | exact PutL.nil | ((apply PutL.cons); (repeat (first | exact SetL.z | apply SetL.s)))))))) rfl (fun b => ?_))))) | (with_reducible refine Tr.region ?_)))
    refine Tr.publish (r := box _ 44 _) (by repeat (first | exact Del.here | apply Del.there)) (fun N1 hm1 ok1 => ?_)
    have iH := ofH (l := [⟨1, 0, 0, 0, 1⟩]) ok1 (by decide)
    clear ok1
    have hcall := do_fn N1 _ zB (RBk.zero _) _ _ _ iH
    try dsimp only [List.length_cons, List.length_nil] at hcall
    ((refine Tr.step rfl ?_)); refine Exec.call0 rfl (hcall) rfl ?_
    clear hcall
    rintro _ N2 hm2 ⟨w, rfl, hB⟩
    rw [sv3] at hB ⊢
    dsimp only at hB ⊢
    obtain ⟨u1, u2, u3, u4, u5, rfl, o1, o2, o3, o4, o5⟩ := hB.open5
    (repeat (first | ((with_reducible refine Tr.step rfl ?_); (first | ((with_reducible refine Knd.move ?_); (refine Exec.stab rfl (Stab.move rfl) rfl ?_)) | ((with_reducible refine Knd.assign ?_); (refine Exec.stab rfl (Stab.assign rfl) rfl ?_)) | ((with_reducible refine Knd.store ?_); (refine Exec.storeW rfl rfl (tysOk.get rfl) (by repeat (first | exact Upd.here | apply Upd.there)) rfl rfl (by repeat (first | exact AllOne.nil | refine AllOne.cons (by first | rfl | assumption) ?_)) ?_)) | ((with_reducible refine Knd.alloc ?_); (refine Exec.alloc (tysOk.get rfl) rfl rfl (fun b => ?_))) | ((with_reducible refine Knd.extract ?_); (refine Exec.stab rfl (Stab.extract rfl rfl) rfl ?_)))) | (with_reducible refine Tr.nil ?_)))
    refine Tr.land N2 (hm1.trans hm2) (holds_sub (by repeat (first | exact SubFr.nil | refine SubFr.cons rfl ?_)) (by repeat (first | exact DropL.refl | apply DropL.skip)))
  generalize y = M4 at *
  have hg4 := hy
  replace hS := hS.mono hg4
  replace hN := hN.mono hg4
  first | (refine Tr.seq ?_) | (refine Tr.next ?_; refine Tr.seq ?_)
  refine Tr.cut (α := Mem) (fun y => ⟨205, [(1, .pointer (some ⟨b1, 0, none⟩)), (2, .pointer (some ⟨b2, 0, none⟩)), (3, .int .i64 0), (4, .slice A3 0 c3), (5, .int .i64 0), (7, .int .i64 330), (9, .int .i64 330)], [], y, box b2 27 [n1, n2, n3, n4, n5] :: box b1 27 [v1, v2, v3, v4, v5] :: F⟩) (fun y => Mem.le M4 y) ?_ (fun y hy => ?_)
  · skip
    (repeat (first | ((with_reducible refine Tr.step rfl ?_); (with_reducible refine Knd.load ?_); (refine Exec.stab rfl (Stab.loadW rfl (tysOk.get rfl) rfl (by repeat (first | exact Has.here | apply Has.there)) rfl) rfl ?_)) | (with_reducible refine Tr.region ?_)))
    have hcall := ship0_fn M4 _ sampB hS none 0 ([] : List Hp) (SlOf.nil _ _ _) 1024
    try dsimp only [List.length_cons, List.length_nil] at hcall
    ((refine Tr.step rfl ?_)); refine Exec.call0 rfl (hcall) rfl ?_
    clear hcall
    rintro _ N1 hm1 ⟨A9, c9, rfl, hB, -⟩
    rw [sv4] at hB ⊢
    dsimp only at hB ⊢
    (repeat (first | ((with_reducible refine Tr.step rfl ?_); (first | ((with_reducible refine Knd.move ?_); (refine Exec.stab rfl (Stab.move rfl) rfl ?_)) | ((with_reducible refine Knd.assign ?_); (refine Exec.stab rfl (Stab.assign rfl) rfl ?_)) | ((with_reducible refine Knd.extract ?_); (refine Exec.stab rfl (Stab.extract rfl rfl) rfl ?_)))) | (with_reducible refine Tr.nil ?_)))
    refine Tr.land N1 hm1 (holds_sub (by repeat (first | exact SubFr.nil | refine SubFr.cons rfl ?_)) (by repeat (first | exact DropL.refl | apply DropL.skip)))
  generalize y = M5 at *
  have hg5 := hy
  replace hS := hS.mono hg5
  replace hN := hN.mono hg5
  first | (refine Tr.seq ?_) | (refine Tr.next ?_; refine Tr.seq ?_)
  refine Tr.cut (α := Mem × Nat) (fun y => ⟨205, [(1, .pointer (some ⟨b1, 0, none⟩)), (2, .pointer (some ⟨b2, 0, none⟩)), (3, .int .i64 0), (4, .slice A3 0 c3), (5, .int .i64 0), (7, .int .i64 330), (9, .int .i64 330), (10, .slice (some ⟨y.2, 0, none⟩) 1 1)], [], y.1, box b2 27 [n1, n2, n3, n4, n5] :: box b1 27 [v1, v2, v3, v4, v5] :: F⟩) (fun y => Mem.le M5 y.1 ∧ SlOf 5 RHp y.1 (.slice (some ⟨y.2, 0, none⟩) 1 1) ([⟨1, 1, 0, 0, 1⟩] : List Hp)) ?_ (fun y hy => ?_)
  · skip
    (repeat (first | ((with_reducible refine Tr.step rfl ?_); (first | ((with_reducible refine Knd.assign ?_); (refine Exec.stab rfl (Stab.assign rfl) rfl ?_)) | ((with_reducible refine Knd.build ?_); (refine Exec.stab rfl (Stab.build tysOk rfl rfl rfl rfl (by repeat (first | exact BuildP.nil | ((apply BuildP.one); (rfl); (rfl); (first | rfl | assumption); (repeat (first | exact SetL.z | apply SetL.s)))))) rfl ?_)) | ((with_reducible refine Knd.buildSlice ?_); (refine Exec.buildSlice (tysOk.get rfl) rfl (tysOk.get rfl) rfl rfl rfl rfl rfl (by repeat (first | exact BuildP.nil | ((apply BuildP.many); (rfl); (rfl); (rfl); (rfl); (repeat (first | exact PutL.nil | ((apply PutL.cons); (repeat (first | exact SetL.z | apply SetL.s)))))))) rfl (fun b => ?_))))) | (with_reducible first | apply Tr.region | apply Tr.nil)))
    refine Tr.publish (r := box _ 44 _) (by repeat (first | exact Del.here | apply Del.there)) (fun N1 hm1 ok1 => ?_)
    have iH := ofH (l := [⟨1, 1, 0, 0, 1⟩]) ok1 (by decide)
    clear ok1
    (skip)
    refine Tr.land (N1, _) ⟨hm1, iH⟩ (holds_sub (by repeat (first | exact SubFr.nil | refine SubFr.cons rfl ?_)) (by repeat (first | exact DropL.refl | apply DropL.skip)))
  obtain ⟨M6, b6⟩ := y
  obtain ⟨hg6, hL⟩ := hy
  dsimp only at hg6 hL ⊢
  replace hS := hS.mono hg6
  replace hN := hN.mono hg6
  first | (refine Tr.seq ?_) | (refine Tr.next ?_; refine Tr.seq ?_)
  refine Tr.cut (α := Mem × Nat × Option Addr × Nat × Option Addr × Nat × Option Addr × Nat × Option Addr × Nat) (fun y => ⟨205, [(1, .pointer (some ⟨b1, 0, none⟩)), (2, .pointer (some ⟨b2, 0, none⟩)), (3, .int .i64 0), (4, .slice A3 0 c3), (5, .int .i64 0), (7, .int .i64 330), (9, .int .i64 330), (10, .slice (some ⟨b6, 0, none⟩) 1 1), (11, .pointer (some ⟨y.2.1, 0, none⟩)), (12, .int .i64 0)], [], y.1, box y.2.1 27 [.int .i64 0, .slice y.2.2.1 2 y.2.2.2.1, .slice y.2.2.2.2.1 2 y.2.2.2.2.2.1, .slice y.2.2.2.2.2.2.1 2 y.2.2.2.2.2.2.2.1, .slice y.2.2.2.2.2.2.2.2.1 0 y.2.2.2.2.2.2.2.2.2] :: box b2 27 [n1, n2, n3, n4, n5] :: box b1 27 [v1, v2, v3, v4, v5] :: F⟩) (fun y => Mem.le M6 y.1 ∧ SlOf 6 RSp y.1 (.slice y.2.2.1 2 y.2.2.2.1) ([⟨0, 0, 0, 0, 0, 4⟩, ⟨1, 0, 0, 2, 0, 2⟩] : List Sp) ∧ SlOf 6 RRq y.1 (.slice y.2.2.2.2.1 2 y.2.2.2.2.2.1) ([⟨0, 0, 0, 5, 0, 4⟩, ⟨1, 0, 0, 3, 0, 0⟩] : List Rq)) ?_ (fun y hy => ?_)
  · skip
    (repeat (first | ((with_reducible refine Tr.step rfl ?_); (first | ((with_reducible refine Knd.move ?_); (refine Exec.stab rfl (Stab.move rfl) rfl ?_)) | ((with_reducible refine Knd.load ?_); (refine Exec.stab rfl (Stab.loadW rfl (tysOk.get rfl) rfl (by repeat (first | exact Has.here | apply Has.there)) rfl) rfl ?_)))) | (with_reducible refine Tr.region ?_)))
    have hcall := do_fn M6 _ sampB hS _ _ [⟨1, 1, 0, 0, 1⟩] hL
    try dsimp only [List.length_cons, List.length_nil] at hcall
    ((refine Tr.step rfl ?_)); refine Exec.call0 rfl (hcall) rfl ?_
    clear hcall
    rintro _ N2 hm2 ⟨w, rfl, hB⟩
    rw [sv5] at hB ⊢
    dsimp only at hB ⊢
    obtain ⟨As, cs, Ar, cr, Af, cf, Ad, cd, rfl, q1, q2, q3⟩ := hB
    dsimp only [List.length_cons, List.length_nil] at q1 q2 q3 ⊢
    (repeat (first | ((with_reducible refine Tr.step rfl ?_); (first | ((with_reducible refine Knd.move ?_); (refine Exec.stab rfl (Stab.move rfl) rfl ?_)) | ((with_reducible refine Knd.assign ?_); (refine Exec.stab rfl (Stab.assign rfl) rfl ?_)) | ((with_reducible refine Knd.store ?_); (refine Exec.storeW rfl rfl (tysOk.get rfl) (by repeat (first | exact Upd.here | apply Upd.there)) rfl rfl (by repeat (first | exact AllOne.nil | refine AllOne.cons (by first | rfl | assumption) ?_)) ?_)) | ((with_reducible refine Knd.alloc ?_); (refine Exec.alloc (tysOk.get rfl) rfl rfl (fun b => ?_))) | ((with_reducible refine Knd.extract ?_); (refine Exec.stab rfl (Stab.extract rfl rfl) rfl ?_)))) | (with_reducible refine Tr.nil ?_)))
    refine Tr.land (N2, _, As, cs, Ar, cr, Af, cf, Ad, cd) ⟨hm2, q1, q2⟩ (holds_sub (by repeat (first | exact SubFr.nil | refine SubFr.cons rfl ?_)) (by repeat (first | exact DropL.refl | apply DropL.skip)))
  obtain ⟨M7, b7, As7, cs7, Ar7, cr7, Af7, cf7, Ad7, cd7⟩ := y
  obtain ⟨hg7, h7s, h7r⟩ := hy
  dsimp only at hg7 h7s h7r ⊢
  replace hS := hS.mono hg7
  replace hN := hN.mono hg7
  replace hL := hL.mono RHp.mono hg7
  first | (refine Tr.seq ?_) | (refine Tr.next ?_; refine Tr.seq ?_)
  refine Tr.cut (α := Mem × Option Addr × Nat) (fun y => ⟨205, [(1, .pointer (some ⟨b1, 0, none⟩)), (2, .pointer (some ⟨b2, 0, none⟩)), (3, .int .i64 0), (4, .slice A3 0 c3), (5, .int .i64 0), (7, .int .i64 330), (9, .int .i64 330), (10, .slice (some ⟨b6, 0, none⟩) 1 1), (11, .pointer (some ⟨b7, 0, none⟩)), (12, .int .i64 0), (13, .slice y.2.1 1 y.2.2), (14, .int .i64 0)], [], y.1, box b7 27 [.int .i64 0, .slice As7 2 cs7, .slice Ar7 2 cr7, .slice Af7 2 cf7, .slice Ad7 0 cd7] :: box b2 27 [n1, n2, n3, n4, n5] :: box b1 27 [v1, v2, v3, v4, v5] :: F⟩) (fun y => Mem.le M7 y.1 ∧ SlOf 2 RBr y.1 (.slice y.2.1 1 y.2.2) ([(1, [0])] : List (Nat × List Nat))) ?_ (fun y hy => ?_)
  · skip
    (repeat (first | ((with_reducible refine Tr.step rfl ?_); (first | ((with_reducible refine Knd.move ?_); (refine Exec.stab rfl (Stab.move rfl) rfl ?_)) | ((with_reducible refine Knd.load ?_); (refine Exec.stab rfl (Stab.loadW rfl (tysOk.get rfl) rfl (by repeat (first | exact Has.here | apply Has.there)) rfl) rfl ?_)))) | (with_reducible refine Tr.region ?_)))
    have hcall := broken_fn M7 _ sampB hS _ _ [⟨1, 1, 0, 0, 1⟩] hL (by decide)
    try dsimp only [List.length_cons, List.length_nil] at hcall
    ((refine Tr.step rfl ?_)); refine Exec.call0 rfl (hcall) rfl ?_
    clear hcall
    rintro _ N2 hm2 ⟨A9, c9, rfl, hB⟩
    rw [sv6] at hB ⊢
    dsimp only [List.length_cons, List.length_nil] at hB ⊢
    (repeat (first | ((with_reducible refine Tr.step rfl ?_); (first | ((with_reducible refine Knd.move ?_); (refine Exec.stab rfl (Stab.move rfl) rfl ?_)) | ((with_reducible refine Knd.assign ?_); (refine Exec.stab rfl (Stab.assign rfl) rfl ?_)) | ((with_reducible refine Knd.extract ?_); (refine Exec.stab rfl (Stab.extract rfl rfl) rfl ?_)))) | (with_reducible refine Tr.nil ?_)))
    refine Tr.land (N2, A9, c9) ⟨hm2, hB⟩ (holds_sub (by repeat (first | exact SubFr.nil | refine SubFr.cons rfl ?_)) (by repeat (first | exact DropL.refl | apply DropL.skip)))
  obtain ⟨M8, A8, c8⟩ := y
  obtain ⟨hg8, h8⟩ := hy
  dsimp only at hg8 h8 ⊢
  replace hS := hS.mono hg8
  replace hN := hN.mono hg8
  replace hL := hL.mono RHp.mono hg8
  replace h7s := h7s.mono RSp.mono hg8
  replace h7r := h7r.mono RRq.mono hg8
  first | (refine Tr.seq ?_) | (refine Tr.next ?_; refine Tr.seq ?_)
  refine Tr.cut (α := Mem × Option Addr × Nat) (fun y => ⟨205, [(1, .pointer (some ⟨b1, 0, none⟩)), (2, .pointer (some ⟨b2, 0, none⟩)), (3, .int .i64 0), (4, .slice A3 0 c3), (5, .int .i64 0), (7, .int .i64 330), (9, .int .i64 330), (10, .slice (some ⟨b6, 0, none⟩) 1 1), (11, .pointer (some ⟨b7, 0, none⟩)), (12, .int .i64 0), (13, .slice A8 1 c8), (14, .int .i64 0), (15, .slice y.2.1 1 y.2.2), (16, .int .i64 0)], [], y.1, box b7 27 [.int .i64 0, .slice As7 2 cs7, .slice Ar7 2 cr7, .slice Af7 2 cf7, .slice Ad7 0 cd7] :: box b2 27 [n1, n2, n3, n4, n5] :: box b1 27 [v1, v2, v3, v4, v5] :: F⟩) (fun y => Mem.le M8 y.1 ∧ SlOf 5 RHp y.1 (.slice y.2.1 1 y.2.2) ([⟨3, 0, 1, 3, 3⟩] : List Hp)) ?_ (fun y hy => ?_)
  · skip
    (repeat (first | ((with_reducible refine Tr.step rfl ?_); (with_reducible refine Knd.load ?_); (refine Exec.stab rfl (Stab.loadW rfl (tysOk.get rfl) rfl (by repeat (first | exact Has.here | apply Has.there)) rfl) rfl ?_)) | (with_reducible refine Tr.region ?_)))
    have hcall := ship0_fn M8 _ sampB hS none 0 ([] : List Hp) (SlOf.nil _ _ _) 3
    try dsimp only [List.length_cons, List.length_nil] at hcall
    ((refine Tr.step rfl ?_)); refine Exec.call0 rfl (hcall) rfl ?_
    clear hcall
    rintro _ N2 hm2 ⟨A9, c9, rfl, hB, hex⟩
    rw [sv7 hex] at hB ⊢
    dsimp only [List.length_cons, List.length_nil] at hB ⊢
    (repeat (first | ((with_reducible refine Tr.step rfl ?_); (first | ((with_reducible refine Knd.move ?_); (refine Exec.stab rfl (Stab.move rfl) rfl ?_)) | ((with_reducible refine Knd.assign ?_); (refine Exec.stab rfl (Stab.assign rfl) rfl ?_)) | ((with_reducible refine Knd.extract ?_); (refine Exec.stab rfl (Stab.extract rfl rfl) rfl ?_)))) | (with_reducible refine Tr.nil ?_)))
    refine Tr.land (N2, A9, c9) ⟨hm2, hB⟩ (holds_sub (by repeat (first | exact SubFr.nil | refine SubFr.cons rfl ?_)) (by repeat (first | exact DropL.refl | apply DropL.skip)))
  obtain ⟨M9, A9, c9⟩ := y
  obtain ⟨hg9, h9⟩ := hy
  dsimp only at hg9 h9 ⊢
  replace hS := hS.mono hg9
  replace hN := hN.mono hg9
  replace hL := hL.mono RHp.mono hg9
  replace h7s := h7s.mono RSp.mono hg9
  replace h7r := h7r.mono RRq.mono hg9
  replace h8 := h8.mono RBr.mono hg9
  first | (refine Tr.seq ?_) | (refine Tr.next ?_; refine Tr.seq ?_)
  refine Tr.cut (α := Mem) (fun y => ⟨205, [(1, .pointer (some ⟨b1, 0, none⟩)), (2, .pointer (some ⟨b2, 0, none⟩)), (3, .int .i64 0), (4, .slice A3 0 c3), (5, .int .i64 0), (7, .int .i64 330), (9, .int .i64 330), (10, .slice (some ⟨b6, 0, none⟩) 1 1), (11, .pointer (some ⟨b7, 0, none⟩)), (12, .int .i64 0), (13, .slice A8 1 c8), (14, .int .i64 0), (15, .slice A9 1 c9), (16, .int .i64 0), (18, .int .i64 330)], [], y, box b7 27 [.int .i64 0, .slice As7 2 cs7, .slice Ar7 2 cr7, .slice Af7 2 cf7, .slice Ad7 0 cd7] :: box b2 27 [n1, n2, n3, n4, n5] :: box b1 27 [v1, v2, v3, v4, v5] :: F⟩) (fun y => Mem.le M9 y) ?_ (fun y hy => ?_)
  · skip
    (repeat (first | ((with_reducible refine Tr.step rfl ?_); (first | ((with_reducible refine Knd.load ?_); (refine Exec.stab rfl (Stab.loadW rfl (tysOk.get rfl) rfl (by repeat (first | exact Has.here | apply Has.there)) rfl) rfl ?_)) | ((with_reducible refine Knd.build ?_); (refine Exec.stab rfl (Stab.build tysOk rfl rfl rfl rfl (by repeat (first | exact BuildP.nil | ((apply BuildP.one); (rfl); (rfl); (first | rfl | assumption); (repeat (first | exact SetL.z | apply SetL.s)))))) rfl ?_)) | ((with_reducible refine Knd.buildSlice ?_); (refine Exec.buildSlice (tysOk.get rfl) rfl (tysOk.get rfl) rfl rfl rfl rfl rfl (by repeat (first | exact BuildP.nil | ((apply BuildP.many); (rfl); (rfl); (rfl); (rfl); (repeat (first | exact PutL.nil | ((apply PutL.cons); (repeat (first | exact SetL.z | apply SetL.s)))))))) rfl (fun b => ?_))))) | (with_reducible refine Tr.region ?_)))
    refine Tr.publish (r := box _ 44 _) (by repeat (first | exact Del.here | apply Del.there)) (fun N1 hm1 ok1 => ?_)
    have iH := ofH (l := [⟨3, 0, 0, 4, 2⟩]) ok1 (by decide)
    clear ok1
    have hcall := do_fn N1 _ sampB (hS.mono hm1) _ _ _ iH
    try dsimp only [List.length_cons, List.length_nil] at hcall
    ((refine Tr.step rfl ?_)); refine Exec.call0 rfl (hcall) rfl ?_
    clear hcall
    rintro _ N2 hm2 ⟨w, rfl, hB⟩
    rw [sv8] at hB ⊢
    dsimp only at hB ⊢
    obtain ⟨u1, u2, u3, u4, u5, rfl, o1, o2, o3, o4, o5⟩ := hB.open5
    (repeat (first | ((with_reducible refine Tr.step rfl ?_); (first | ((with_reducible refine Knd.move ?_); (refine Exec.stab rfl (Stab.move rfl) rfl ?_)) | ((with_reducible refine Knd.assign ?_); (refine Exec.stab rfl (Stab.assign rfl) rfl ?_)) | ((with_reducible refine Knd.store ?_); (refine Exec.storeW rfl rfl (tysOk.get rfl) (by repeat (first | exact Upd.here | apply Upd.there)) rfl rfl (by repeat (first | exact AllOne.nil | refine AllOne.cons (by first | rfl | assumption) ?_)) ?_)) | ((with_reducible refine Knd.alloc ?_); (refine Exec.alloc (tysOk.get rfl) rfl rfl (fun b => ?_))) | ((with_reducible refine Knd.extract ?_); (refine Exec.stab rfl (Stab.extract rfl rfl) rfl ?_)))) | (with_reducible refine Tr.nil ?_)))
    refine Tr.land N2 (hm1.trans hm2) (holds_sub (by repeat (first | exact SubFr.nil | refine SubFr.cons rfl ?_)) (by repeat (first | exact DropL.refl | apply DropL.skip)))
  generalize y = M10 at *
  have hg10 := hy
  replace hS := hS.mono hg10
  replace hN := hN.mono hg10
  replace hL := hL.mono RHp.mono hg10
  replace h7s := h7s.mono RSp.mono hg10
  replace h7r := h7r.mono RRq.mono hg10
  replace h8 := h8.mono RBr.mono hg10
  replace h9 := h9.mono RHp.mono hg10
  first | (refine Tr.seq ?_) | (refine Tr.next ?_; refine Tr.seq ?_)
  refine Tr.cut (α := Mem × Nat × Option Addr × Nat × Option Addr × Nat × Option Addr × Nat × Option Addr × Nat) (fun y => ⟨205, [(1, .pointer (some ⟨b1, 0, none⟩)), (2, .pointer (some ⟨b2, 0, none⟩)), (3, .int .i64 0), (4, .slice A3 0 c3), (5, .int .i64 0), (7, .int .i64 330), (9, .int .i64 330), (10, .slice (some ⟨b6, 0, none⟩) 1 1), (11, .pointer (some ⟨b7, 0, none⟩)), (12, .int .i64 0), (13, .slice A8 1 c8), (14, .int .i64 0), (15, .slice A9 1 c9), (16, .int .i64 0), (18, .int .i64 330), (19, .pointer (some ⟨y.2.1, 0, none⟩)), (20, .int .i64 0)], [], y.1, box y.2.1 27 [.int .i64 0, .slice y.2.2.1 2 y.2.2.2.1, .slice y.2.2.2.2.1 2 y.2.2.2.2.2.1, .slice y.2.2.2.2.2.2.1 2 y.2.2.2.2.2.2.2.1, .slice y.2.2.2.2.2.2.2.2.1 0 y.2.2.2.2.2.2.2.2.2] :: box b7 27 [.int .i64 0, .slice As7 2 cs7, .slice Ar7 2 cr7, .slice Af7 2 cf7, .slice Ad7 0 cd7] :: box b2 27 [n1, n2, n3, n4, n5] :: box b1 27 [v1, v2, v3, v4, v5] :: F⟩) (fun y => Mem.le M10 y.1 ∧ SlOf 6 RSp y.1 (.slice y.2.2.1 2 y.2.2.2.1) ([⟨0, 0, 0, 0, 0, 3⟩, ⟨1, 0, 0, 2, 0, 3⟩] : List Sp) ∧ SlOf 6 RRq y.1 (.slice y.2.2.2.2.1 2 y.2.2.2.2.2.1) ([⟨0, 0, 0, 5, 0, 3⟩, ⟨1, 0, 0, 3, 0, 3⟩] : List Rq)) ?_ (fun y hy => ?_)
  · skip
    (repeat (first | ((with_reducible refine Tr.step rfl ?_); (first | ((with_reducible refine Knd.load ?_); (refine Exec.stab rfl (Stab.loadW rfl (tysOk.get rfl) rfl (by repeat (first | exact Has.here | apply Has.there)) rfl) rfl ?_)) | ((with_reducible refine Knd.build ?_); (refine Exec.stab rfl (Stab.build tysOk rfl rfl rfl rfl (by repeat (first | exact BuildP.nil | ((apply BuildP.one); (rfl); (rfl); (first | rfl | assumption); (repeat (first | exact SetL.z | apply SetL.s)))))) rfl ?_)) | ((with_reducible refine Knd.buildSlice ?_); (refine Exec.buildSlice (tysOk.get rfl) rfl (tysOk.get rfl) rfl rfl rfl rfl rfl (by repeat (first | exact BuildP.nil | ((apply BuildP.many); (rfl); (rfl); (rfl); (rfl); (repeat (first | exact PutL.nil | ((apply PutL.cons); (repeat (first | exact SetL.z | apply SetL.s)))))))) rfl (fun b => ?_))))) | (with_reducible refine Tr.region ?_)))
    refine Tr.publish (r := box _ 44 _) (by repeat (first | exact Del.here | apply Del.there)) (fun N1 hm1 ok1 => ?_)
    have iH := ofH (l := [⟨3, 0, 0, 4, 1⟩]) ok1 (by decide)
    clear ok1
    have hcall := do_fn N1 _ sampB (hS.mono hm1) _ _ _ iH
    try dsimp only [List.length_cons, List.length_nil] at hcall
    ((refine Tr.step rfl ?_)); refine Exec.call0 rfl (hcall) rfl ?_
    clear hcall
    rintro _ N2 hm2 ⟨w, rfl, hB⟩
    rw [sv9] at hB ⊢
    dsimp only at hB ⊢
    obtain ⟨As, cs, Ar, cr, Af, cf, Ad, cd, rfl, q1, q2, q3⟩ := hB
    dsimp only [List.length_cons, List.length_nil] at q1 q2 q3 ⊢
    (repeat (first | ((with_reducible refine Tr.step rfl ?_); (first | ((with_reducible refine Knd.move ?_); (refine Exec.stab rfl (Stab.move rfl) rfl ?_)) | ((with_reducible refine Knd.assign ?_); (refine Exec.stab rfl (Stab.assign rfl) rfl ?_)) | ((with_reducible refine Knd.store ?_); (refine Exec.storeW rfl rfl (tysOk.get rfl) (by repeat (first | exact Upd.here | apply Upd.there)) rfl rfl (by repeat (first | exact AllOne.nil | refine AllOne.cons (by first | rfl | assumption) ?_)) ?_)) | ((with_reducible refine Knd.alloc ?_); (refine Exec.alloc (tysOk.get rfl) rfl rfl (fun b => ?_))) | ((with_reducible refine Knd.extract ?_); (refine Exec.stab rfl (Stab.extract rfl rfl) rfl ?_)))) | (with_reducible refine Tr.nil ?_)))
    refine Tr.land (N2, _, As, cs, Ar, cr, Af, cf, Ad, cd) ⟨hm1.trans hm2, q1, q2⟩ (holds_sub (by repeat (first | exact SubFr.nil | refine SubFr.cons rfl ?_)) (by repeat (first | exact DropL.refl | apply DropL.skip)))
  obtain ⟨M11, b11, As11, cs11, Ar11, cr11, Af11, cf11, Ad11, cd11⟩ := y
  obtain ⟨hg11, h11s, h11r⟩ := hy
  dsimp only at hg11 h11s h11r ⊢
  replace hS := hS.mono hg11
  replace hN := hN.mono hg11
  replace hL := hL.mono RHp.mono hg11
  replace h7s := h7s.mono RSp.mono hg11
  replace h7r := h7r.mono RRq.mono hg11
  replace h8 := h8.mono RBr.mono hg11
  replace h9 := h9.mono RHp.mono hg11
  first | (refine Tr.seq ?_) | (refine Tr.next ?_; refine Tr.seq ?_)
  refine Tr.cut (α := Mem × Option Addr × Nat) (fun y => ⟨205, [(1, .pointer (some ⟨b1, 0, none⟩)), (2, .pointer (some ⟨b2, 0, none⟩)), (3, .int .i64 0), (4, .slice A3 0 c3), (5, .int .i64 0), (7, .int .i64 330), (9, .int .i64 330), (10, .slice (some ⟨b6, 0, none⟩) 1 1), (11, .pointer (some ⟨b7, 0, none⟩)), (12, .int .i64 0), (13, .slice A8 1 c8), (14, .int .i64 0), (15, .slice A9 1 c9), (16, .int .i64 0), (18, .int .i64 330), (19, .pointer (some ⟨b11, 0, none⟩)), (20, .int .i64 0), (21, .slice y.2.1 1 y.2.2), (22, .int .i64 0)], [], y.1, box b11 27 [.int .i64 0, .slice As11 2 cs11, .slice Ar11 2 cr11, .slice Af11 2 cf11, .slice Ad11 0 cd11] :: box b7 27 [.int .i64 0, .slice As7 2 cs7, .slice Ar7 2 cr7, .slice Af7 2 cf7, .slice Ad7 0 cd7] :: box b2 27 [n1, n2, n3, n4, n5] :: box b1 27 [v1, v2, v3, v4, v5] :: F⟩) (fun y => Mem.le M11 y.1 ∧ SlOf 2 RBr y.1 (.slice y.2.1 1 y.2.2) ([(1, [1])] : List (Nat × List Nat))) ?_ (fun y hy => ?_)
  · skip
    (repeat (first | ((with_reducible refine Tr.step rfl ?_); (first | ((with_reducible refine Knd.load ?_); (refine Exec.stab rfl (Stab.loadW rfl (tysOk.get rfl) rfl (by repeat (first | exact Has.here | apply Has.there)) rfl) rfl ?_)) | ((with_reducible refine Knd.build ?_); (refine Exec.stab rfl (Stab.build tysOk rfl rfl rfl rfl (by repeat (first | exact BuildP.nil | ((apply BuildP.one); (rfl); (rfl); (first | rfl | assumption); (repeat (first | exact SetL.z | apply SetL.s)))))) rfl ?_)) | ((with_reducible refine Knd.buildSlice ?_); (refine Exec.buildSlice (tysOk.get rfl) rfl (tysOk.get rfl) rfl rfl rfl rfl rfl (by repeat (first | exact BuildP.nil | ((apply BuildP.many); (rfl); (rfl); (rfl); (rfl); (repeat (first | exact PutL.nil | ((apply PutL.cons); (repeat (first | exact SetL.z | apply SetL.s)))))))) rfl (fun b => ?_))))) | (with_reducible refine Tr.region ?_)))
    refine Tr.publish (r := box _ 44 _) (by repeat (first | exact Del.here | apply Del.there)) (fun N1 hm1 ok1 => ?_)
    have iH := ofH (l := [⟨3, 0, 0, 4, 1⟩, ⟨2, 1, 0, 6, 0⟩]) ok1 (by decide)
    clear ok1
    have hcall := broken_fn N1 _ sampB (hS.mono hm1) _ _ _ iH (by decide)
    try dsimp only [List.length_cons, List.length_nil] at hcall
    ((refine Tr.step rfl ?_)); refine Exec.call0 rfl (hcall) rfl ?_
    clear hcall
    rintro _ N2 hm2 ⟨A9, c9, rfl, hB⟩
    rw [sv10] at hB ⊢
    dsimp only [List.length_cons, List.length_nil] at hB ⊢
    (repeat (first | ((with_reducible refine Tr.step rfl ?_); (first | ((with_reducible refine Knd.move ?_); (refine Exec.stab rfl (Stab.move rfl) rfl ?_)) | ((with_reducible refine Knd.assign ?_); (refine Exec.stab rfl (Stab.assign rfl) rfl ?_)) | ((with_reducible refine Knd.extract ?_); (refine Exec.stab rfl (Stab.extract rfl rfl) rfl ?_)))) | (with_reducible refine Tr.nil ?_)))
    refine Tr.land (N2, A9, c9) ⟨hm1.trans hm2, hB⟩ (holds_sub (by repeat (first | exact SubFr.nil | refine SubFr.cons rfl ?_)) (by repeat (first | exact DropL.refl | apply DropL.skip)))
  obtain ⟨M12, A12, c12⟩ := y
  obtain ⟨hg12, h12⟩ := hy
  dsimp only at hg12 h12 ⊢
  replace hS := hS.mono hg12
  replace hN := hN.mono hg12
  replace hL := hL.mono RHp.mono hg12
  replace h7s := h7s.mono RSp.mono hg12
  replace h7r := h7r.mono RRq.mono hg12
  replace h8 := h8.mono RBr.mono hg12
  replace h9 := h9.mono RHp.mono hg12
  replace h11s := h11s.mono RSp.mono hg12
  replace h11r := h11r.mono RRq.mono hg12
  first | (refine Tr.seq ?_) | (refine Tr.next ?_; refine Tr.seq ?_)
  refine Tr.cut (α := Unit) (fun _ => ⟨205, [(1, .pointer (some ⟨b1, 0, none⟩)), (2, .pointer (some ⟨b2, 0, none⟩)), (4, .slice A3 0 c3), (11, .pointer (some ⟨b7, 0, none⟩)), (13, .slice A8 1 c8), (15, .slice A9 1 c9), (19, .pointer (some ⟨b11, 0, none⟩)), (21, .slice A12 1 c12)], [], M12, box b11 27 [.int .i64 0, .slice As11 2 cs11, .slice Ar11 2 cr11, .slice Af11 2 cf11, .slice Ad11 0 cd11] :: box b7 27 [.int .i64 0, .slice As7 2 cs7, .slice Ar7 2 cr7, .slice Af7 2 cf7, .slice Ad7 0 cd7] :: box b2 27 [n1, n2, n3, n4, n5] :: box b1 27 [v1, v2, v3, v4, v5] :: F⟩) (fun _ => True) ?_ (fun _ _ => ?_)
  · (repeat (first | ((with_reducible refine Tr.step rfl ?_); (first | ((with_reducible refine Knd.move ?_); (refine Exec.stab rfl (Stab.move rfl) rfl ?_)) | ((with_reducible refine Knd.binOp ?_); (refine Exec.stab rfl (Stab.int rfl rfl rfl) rfl ?_)) | ((with_reducible refine Knd.pick ?_); (refine Exec.stab rfl (Stab.pick_fd rfl (by (with_reducible exact (not_not_intro rfl))) rfl) rfl ?_)))) | (with_reducible first | apply Tr.next | apply Tr.seq | apply Tr.region | apply Tr.nil) | ((refine Tr.guard_y' rfl rfl rfl (by (with_reducible exact (not_not_intro rfl))) ?_); (first | ((with_reducible refine Knd.move ?_); (refine Exec.stab rfl (Stab.move rfl) rfl ?_)) | ((with_reducible refine Knd.load ?_); (refine Exec.stab rfl (Stab.load rfl (tysOk.get rfl) rfl (by repeat (first | exact Has.here | apply Has.there)) rfl) rfl ?_)) | ((with_reducible refine Knd.fieldAddr ?_); (refine Exec.stab rfl (Stab.fieldZ rfl (tysOk.get rfl) rfl rfl (tysOk.get rfl) rfl) rfl ?_)) | ((with_reducible refine Knd.len ?_); (refine Exec.stab rfl (Stab.len rfl (tysOk.get rfl) rfl) rfl ?_)) | ((with_reducible refine Knd.binOp ?_); (refine Exec.stab rfl (Stab.int rfl rfl rfl) rfl ?_)))) | (with_reducible refine Tr.skip ?_) | (refine Tr.cond_f rfl (by (with_reducible exact (not_not_intro rfl))) ?_)))
    refine Tr.land () trivial (holds_sub (by repeat (first | exact SubFr.nil | refine SubFr.cons rfl ?_)) (by repeat (first | exact DropL.refl | apply DropL.skip)))
  obtain ⟨i7r0, _, a7r0, rfl⟩ := h7r.elem (i := 0) rfl
  obtain ⟨i7r1, _, a7r1, rfl⟩ := h7r.elem (i := 1) rfl
  obtain ⟨i7s1, _, a7s1, rfl⟩ := h7s.elem (i := 1) rfl
  obtain ⟨i11r0, _, a11r0, rfl⟩ := h11r.elem (i := 0) rfl
  obtain ⟨i11s0, _, a11s0, rfl⟩ := h11s.elem (i := 0) rfl
  replace a7r0 := a7r0.drop 5
  replace a7r1 := a7r1.drop 5
  replace a7s1 := a7s1.drop 5
  replace a11r0 := a11r0.drop 5
  replace a11s0 := a11s0.drop 5
  dsimp only [List.drop] at a7r0 a7r1 a7s1 a11r0 a11s0
  first | (refine Tr.seq ?_) | (refine Tr.next ?_; refine Tr.seq ?_)
  refine Tr.cut (α := Mem) (fun y => ⟨205, [(0, .bool true)], [], y, F⟩) (fun y => Mem.le M12 y) ?_ (fun y hy => ?_)
  · (repeat (first | ((with_reducible refine Tr.step rfl ?_); (first | ((with_reducible refine Knd.load ?_); (refine Exec.stab rfl (Stab.loadW rfl (tysOk.get rfl) rfl (by repeat (first | exact Has.here | apply Has.there)) rfl) rfl ?_)) | ((with_reducible refine Knd.build ?_); (refine Exec.stab rfl (Stab.build tysOk rfl rfl rfl rfl (by repeat (exact BuildP.nil))) rfl ?_)))) | (with_reducible first | apply Tr.app | apply Tr.region)))
    have hcall := sameBook_fn M12 _ _ zB zB hN (RBk.zero _)
    try dsimp only [List.length_cons, List.length_nil] at hcall
    ((refine Tr.step rfl ?_)); refine Exec.call0 rfl (hcall) rfl ?_
    clear hcall
    rintro _ _ _ ⟨⟨bb, rfl, hbb⟩, rfl⟩
    obtain rfl := hbb.2 rfl
    (repeat (first | ((with_reducible refine Tr.step rfl ?_); (first | ((with_reducible refine Knd.move ?_); (refine Exec.stab rfl (Stab.move rfl) rfl ?_)) | ((with_reducible refine Knd.pick ?_); (refine Exec.stab rfl (Stab.pick_t rfl (by (with_reducible rfl)) rfl) rfl ?_)))) | (with_reducible refine Tr.app ?_) | ((refine Tr.guard_l rfl rfl rfl (by (with_reducible rfl)) ?_); (first | ((with_reducible refine Knd.move ?_); (refine Exec.stab rfl (Stab.move rfl) rfl ?_)) | ((with_reducible refine Knd.len ?_); (refine Exec.stab rfl (Stab.len rfl (tysOk.get rfl) rfl) rfl ?_)) | ((with_reducible refine Knd.binOp ?_); (refine Exec.stab rfl (Stab.int rfl rfl rfl) rfl ?_)))) | ((refine Tr.guard_y rfl rfl rfl (by omega) ?_); (first | ((with_reducible refine Knd.move ?_); (refine Exec.stab rfl (Stab.move rfl) rfl ?_)) | ((with_reducible refine Knd.build ?_); (refine Exec.stab rfl (Stab.build tysOk rfl rfl rfl rfl (by repeat (first | exact BuildP.nil | ((apply BuildP.one); (rfl); (rfl); (first | rfl | assumption); (repeat (first | exact SetL.z | apply SetL.s)))))) rfl ?_)) | ((with_reducible refine Knd.buildSlice ?_); (refine Exec.buildSlice (tysOk.get rfl) rfl (tysOk.get rfl) rfl rfl rfl rfl rfl (by repeat (first | exact BuildP.nil | ((apply BuildP.one); (rfl); (rfl); (first | rfl | assumption); (repeat (first | exact SetL.z | apply SetL.s))) | ((apply BuildP.many); (rfl); (rfl); (rfl); (rfl); (repeat (first | exact PutL.nil | ((apply PutL.cons); (repeat (first | exact SetL.z | apply SetL.s)))))))) rfl (fun b => ?_)))))))
    refine Tr.publish (r := box _ 3 _) (by repeat (first | exact Del.here | apply Del.there)) (fun N1 hm1 ok1 => ?_)
    have i1 := Ints.ofBox (l := nats_ [0]) ok1 (by decide)
    refine Tr.publish (r := box _ 52 _) (by repeat (first | exact Del.here | apply Del.there)) (fun N2 hm2 ok2 => ?_)
    have i2 := ofBr1 (x := (1, [0])) ok2 (i1.mono RI.mono hm2)
    clear ok1 ok2
    have m2 := hm1.trans hm2
    have hcall := sameBroken_fn N2 _ _ _ _ [(1, [0])] _ (h8.mono RBr.mono m2) i2
    try dsimp only [List.length_cons, List.length_nil] at hcall
    ((refine Tr.guard_y rfl rfl rfl (by omega) ?_)); refine Exec.call0 rfl (hcall) rfl ?_
    clear hcall
    rintro _ _ _ ⟨⟨bb, rfl, hbb⟩, rfl⟩
    obtain rfl := hbb.2 rfl
    replace a7r0 := a7r0.mono m2
    replace a7r1 := a7r1.mono m2
    replace a7s1 := a7s1.mono m2
    (repeat (first | ((with_reducible refine Tr.step rfl ?_); (first | ((with_reducible refine Knd.move ?_); (refine Exec.stab rfl (Stab.move rfl) rfl ?_)) | ((with_reducible refine Knd.pick ?_); (first | (refine Exec.stab rfl (Stab.pick_t rfl (by (with_reducible rfl)) rfl) rfl ?_) | (refine Exec.stab rfl (Stab.pick_td rfl (by first | (with_reducible rfl) | omega) rfl) rfl ?_))))) | (with_reducible first | apply Tr.app | apply Tr.app0) | ((refine Tr.guard_l rfl rfl rfl (by (with_reducible rfl)) ?_); (first | ((with_reducible refine Knd.load ?_); (first | (refine Exec.stab rfl (Stab.load rfl (tysOk.get rfl) rfl (by repeat (first | exact Has.here | apply Has.there)) rfl) rfl ?_) | (refine Exec.stab rfl (Stab.loadM rfl (tysOk.get rfl) rfl (by assumption)) rfl ?_))) | ((with_reducible refine Knd.fieldAddr ?_); (first | (refine Exec.stab rfl (Stab.fieldZ rfl (tysOk.get rfl) rfl rfl (tysOk.get rfl) rfl) rfl ?_) | (refine Exec.stab rfl (Stab.fieldD rfl (tysOk.get rfl) rfl rfl (tysOk.get rfl) rfl) rfl ?_))) | ((with_reducible refine Knd.binOp ?_); (refine Exec.stab rfl (Stab.int rfl rfl rfl) rfl ?_)) | ((with_reducible refine Knd.indexAddr ?_); (refine Exec.stab rfl (Stab.indexAddr rfl rfl (tysOk.get rfl) rfl (tysOk.get rfl) rfl (by omega) (by omega) (by first | rfl | assumption)) rfl ?_)))) | ((refine Tr.guard_y rfl rfl rfl (by (with_reducible rfl)) ?_); (first | ((with_reducible refine Knd.move ?_); (refine Exec.stab rfl (Stab.move rfl) rfl ?_)) | ((with_reducible refine Knd.load ?_); (first | (refine Exec.stab rfl (Stab.load rfl (tysOk.get rfl) rfl (by repeat (first | exact Has.here | apply Has.there)) rfl) rfl ?_) | (refine Exec.stab rfl (Stab.loadM rfl (tysOk.get rfl) rfl (by assumption)) rfl ?_))) | ((with_reducible refine Knd.fieldAddr ?_); (first | (refine Exec.stab rfl (Stab.fieldZ rfl (tysOk.get rfl) rfl rfl (tysOk.get rfl) rfl) rfl ?_) | (refine Exec.stab rfl (Stab.fieldD rfl (tysOk.get rfl) rfl rfl (tysOk.get rfl) rfl) rfl ?_))) | ((with_reducible refine Knd.binOp ?_); (refine Exec.stab rfl (Stab.int rfl rfl rfl) rfl ?_)) | ((with_reducible refine Knd.indexAddr ?_); (refine Exec.stab rfl (Stab.indexAddr rfl rfl (tysOk.get rfl) rfl (tysOk.get rfl) rfl (by omega) (by omega) (by first | rfl | assumption)) rfl ?_)) | ((with_reducible refine Knd.build ?_); (refine Exec.stab rfl (Stab.build tysOk rfl rfl rfl rfl (by repeat (first | exact BuildP.nil | ((apply BuildP.one); (rfl); (rfl); (first | rfl | assumption); (repeat (first | exact SetL.z | apply SetL.s)))))) rfl ?_)) | ((with_reducible refine Knd.buildSlice ?_); (refine Exec.buildSlice (tysOk.get rfl) rfl (tysOk.get rfl) rfl rfl rfl rfl rfl (by repeat (first | exact BuildP.nil | ((apply BuildP.many); (rfl); (rfl); (rfl); (rfl); (repeat (first | exact PutL.nil | ((apply PutL.cons); (repeat (first | exact SetL.z | apply SetL.s)))))))) rfl (fun b => ?_)))))))
    refine Tr.publish (r := box _ 44 _) (by repeat (first | exact Del.here | apply Del.there)) (fun N3 hm3 ok3 => ?_)
    have i3 := ofH (l := [⟨3, 0, 1, 3, 3⟩]) ok3 (by decide)
    clear ok3
    have m3 := m2.trans hm3
    have hcall := sameHap_fn N3 _ _ _ _ [⟨3, 0, 1, 3, 3⟩] _ (h9.mono RHp.mono m3) i3
    try dsimp only [List.length_cons, List.length_nil] at hcall
    ((refine Tr.guard_y rfl rfl rfl (by (with_reducible rfl)) ?_)); refine Exec.call0 rfl (hcall) rfl ?_
    clear hcall
    rintro _ _ _ ⟨⟨bb, rfl, hbb⟩, rfl⟩
    obtain rfl := hbb.2 rfl
    replace a11r0 := a11r0.mono m3
    replace a11s0 := a11s0.mono m3
    (repeat (first | ((with_reducible refine Tr.step rfl ?_); (first | ((with_reducible refine Knd.move ?_); (refine Exec.stab rfl (Stab.move rfl) rfl ?_)) | ((with_reducible refine Knd.pick ?_); (first | (refine Exec.stab rfl (Stab.pick_t rfl (by (with_reducible rfl)) rfl) rfl ?_) | (refine Exec.stab rfl (Stab.pick_td rfl (by (with_reducible rfl)) rfl) rfl ?_))))) | ((refine Tr.guard_l rfl rfl rfl (by (with_reducible rfl)) ?_); (first | ((with_reducible refine Knd.load ?_); (first | (refine Exec.stab rfl (Stab.load rfl (tysOk.get rfl) rfl (by repeat (first | exact Has.here | apply Has.there)) rfl) rfl ?_) | (refine Exec.stab rfl (Stab.loadM rfl (tysOk.get rfl) rfl (by assumption)) rfl ?_))) | ((with_reducible refine Knd.fieldAddr ?_); (first | (refine Exec.stab rfl (Stab.fieldZ rfl (tysOk.get rfl) rfl rfl (tysOk.get rfl) rfl) rfl ?_) | (refine Exec.stab rfl (Stab.fieldD rfl (tysOk.get rfl) rfl rfl (tysOk.get rfl) rfl) rfl ?_))) | ((with_reducible refine Knd.binOp ?_); (refine Exec.stab rfl (Stab.int rfl rfl rfl) rfl ?_)) | ((with_reducible refine Knd.indexAddr ?_); (refine Exec.stab rfl (Stab.indexAddr rfl rfl (tysOk.get rfl) rfl (tysOk.get rfl) rfl (by omega) (by omega) (by first | rfl | assumption)) rfl ?_)))) | ((refine Tr.guard_y rfl rfl rfl (by (with_reducible rfl)) ?_); (first | ((with_reducible refine Knd.move ?_); (refine Exec.stab rfl (Stab.move rfl) rfl ?_)) | ((with_reducible refine Knd.load ?_); (first | (refine Exec.stab rfl (Stab.load rfl (tysOk.get rfl) rfl (by repeat (first | exact Has.here | apply Has.there)) rfl) rfl ?_) | (refine Exec.stab rfl (Stab.loadM rfl (tysOk.get rfl) rfl (by assumption)) rfl ?_))) | ((with_reducible refine Knd.fieldAddr ?_); (first | (refine Exec.stab rfl (Stab.fieldZ rfl (tysOk.get rfl) rfl rfl (tysOk.get rfl) rfl) rfl ?_) | (refine Exec.stab rfl (Stab.fieldD rfl (tysOk.get rfl) rfl rfl (tysOk.get rfl) rfl) rfl ?_))) | ((with_reducible refine Knd.binOp ?_); (refine Exec.stab rfl (Stab.int rfl rfl rfl) rfl ?_)) | ((with_reducible refine Knd.indexAddr ?_); (refine Exec.stab rfl (Stab.indexAddr rfl rfl (tysOk.get rfl) rfl (tysOk.get rfl) rfl (by omega) (by omega) (by first | rfl | assumption)) rfl ?_)) | ((with_reducible refine Knd.build ?_); (refine Exec.stab rfl (Stab.build tysOk rfl rfl rfl rfl (by repeat (first | exact BuildP.nil | ((apply BuildP.one); (rfl); (rfl); (first | rfl | assumption); (repeat (first | exact SetL.z | apply SetL.s)))))) rfl ?_)) | ((with_reducible refine Knd.buildSlice ?_); (refine Exec.buildSlice (tysOk.get rfl) rfl (tysOk.get rfl) rfl rfl rfl rfl rfl (by repeat (first | exact BuildP.nil | ((apply BuildP.one); (rfl); (rfl); (first | rfl | assumption); (repeat (first | exact SetL.z | apply SetL.s))) | ((apply BuildP.many); (rfl); (rfl); (rfl); (rfl); (repeat (first | exact PutL.nil | ((apply PutL.cons); (repeat (first | exact SetL.z | apply SetL.s)))))))) rfl (fun b => ?_)))))))
    refine Tr.publish (r := box _ 3 _) (by repeat (first | exact Del.here | apply Del.there)) (fun N4 hm4 ok4 => ?_)
    have i4 := Ints.ofBox (l := nats_ [1]) ok4 (by decide)
    refine Tr.publish (r := box _ 52 _) (by repeat (first | exact Del.here | apply Del.there)) (fun N5 hm5 ok5 => ?_)
    have i5 := ofBr1 (x := (1, [1])) ok5 (i4.mono RI.mono hm5)
    clear ok4 ok5
    have m5 := m3.trans (hm4.trans hm5)
    have hcall := sameBroken_fn N5 _ _ _ _ [(1, [1])] _ (h12.mono RBr.mono m5) i5
    try dsimp only [List.length_cons, List.length_nil] at hcall
    ((refine Tr.guard_y rfl rfl rfl (by (with_reducible rfl)) ?_)); refine Exec.call0 rfl (hcall) rfl ?_
    clear hcall
    rintro _ _ _ ⟨⟨bb, rfl, hbb⟩, rfl⟩
    obtain rfl := hbb.2 rfl
    (repeat (first | ((with_reducible refine Tr.step rfl ?_); (first | ((with_reducible refine Knd.assign ?_); (refine Exec.stab rfl (Stab.assign rfl) rfl ?_)) | ((with_reducible refine Knd.pick ?_); (refine Exec.stab rfl (Stab.pick_td rfl (by (with_reducible rfl)) rfl) rfl ?_)))) | (with_reducible refine Tr.nil ?_)))
    refine Tr.land N5 m5 (holds_sub (by repeat (first | exact SubFr.nil | refine SubFr.cons rfl ?_)) (by repeat (first | exact DropL.refl | apply DropL.skip)))
  (repeat (first | (with_reducible first | apply Tr.next | apply Tr.ret)))
  have hfin := hg1.trans (hg2.trans (hg3.trans (hg4.trans (hg5.trans (hg6.trans (hg7.trans (hg8.trans (hg9.trans (hg10.trans (hg11.trans (hg12.trans hy)))))))))))
  (refine Tr.done (by first | exact .inl rfl | exact .inr rfl) rfl (by repeat (first | exact RVs.nil | (apply RVs.cons; (exact RV.tmp rfl)))) (by first | exact Mem.le.refl _ | assumption) (by exact ⟨[], rfl⟩) ⟨rfl, ?_⟩)
  rfl
end Go.Proofs.Ytgnipfjjkliibaa

/-
  Honour: what Broken answers, one by one; what is broken was broken by a happening that is no ship. Plain.
  Conditions: none.
-/
namespace Go.Proofs.Ytgnipfjjkliibaa
open Go Bf
theorem any_take {α : Type} {p : α → Bool} {l : List α} {i : Nat} {x : α} (h : l[i]? = some x) : (l.take (i + 1)).any p = ((l.take i).any p || p x) := by
  rw [List.take_add_one, h, List.any_append]
  simp
attribute [local irreducible] Tr Exec Stab HasTy Go.Addr.add IntKind.wrap
end Go.Proofs.Ytgnipfjjkliibaa

/-
  Honour, plain: what happens in two parts is what happens at once.
  Conditions: none.
-/
namespace Go.Proofs.Ytgnipfjjkliibaa
open Go Bf
/-- the state of a book and that of what was left at an earlier time: the same but for what was broken then -/
structure Twin (t s s' : St) : Prop where
  am : s'.am = s.am
  dy : s'.dy = s.dy
  ndl : s'.nd.length = s.nd.length
  brl : s'.br.length = s.br.length
  dyl : t.dy.length = s.dy.length
  dyg : ∀ i, t.dy.getD i 0 ≤ s.dy.getD i 0
  old : ∀ j, j < s.br.length → 0 ≤ t.br.getD j 0 → 0 ≤ s.br.getD j 0 ∧ s'.br.getD j 0 < 0 ∧ s'.nd.getD j 0 = 0
  new : ∀ j, j < s.br.length → t.br.getD j 0 < 0 → (s'.br.getD j 0 < 0 ↔ s.br.getD j 0 < 0) ∧ s'.nd.getD j 0 = s.nd.getD j 0
def fxT (x : Fx) (t : St) : Fx := ⟨tabL x.fits x.due t.dy, x.due⟩
theorem tab_twin {x : Fx} {t s : St} (hl : t.dy.length = s.dy.length) (hg : ∀ i, t.dy.getD i 0 ≤ s.dy.getD i 0) : tabL (fxT x t).fits (fxT x t).due s.dy = tabL x.fits x.due s.dy := by
  show tabL (tabL x.fits x.due t.dy) x.due s.dy = _
  conv => lhs; unfold tabL
  conv => rhs; unfold tabL
  apply List.map_congr_left
  intro i hi
  apply List.map_congr_left
  intro j hj
  have hi := List.mem_range.1 hi
  have hj := List.mem_range.1 hj
  have e := tabL_get (fits := x.fits) (due := x.due) (dy := t.dy) (i := i) (j := j) (by omega) hj
  unfold tabL at e
  rw [e]
  have hgi := hg i
  by_cases c : s.dy.getD i 0 ≤ x.due.getD j 0
  · rw [decide_eq_true c, decide_eq_true (show t.dy.getD i 0 ≤ x.due.getD j 0 by omega), Bool.and_true, Bool.and_true]
  · rw [decide_eq_false c, Bool.and_false, Bool.and_false]
section
variable {x : Fx} {t s s' : St}
theorem Twin.srv (h : Twin t s s') (hn : s.br.length = s.nd.length) (S : Nat → Bool) : srvP (fxT x t) s' S ↔ srvP x s (fun b => S b && decide (t.br.getD b 0 < 0)) := by
  unfold srvP
  rw [h.dy, h.am, tab_twin h.dyl h.dyg]
  have e : mskL s'.nd S = mskL s.nd (fun b => S b && decide (t.br.getD b 0 < 0)) := by
    refine list_eq 0 (by rw [mskL_length, mskL_length]; exact h.ndl) (fun j hj => ?_)
    rw [mskL_length, h.ndl] at hj
    rw [mskL_getD, mskL_getD]
    by_cases c : t.br.getD j 0 < 0
    · rw [decide_eq_true c, Bool.and_true, (h.new j (by omega) c).2]
    · rw [decide_eq_false c, Bool.and_false, (h.old j (by omega) (by omega)).2.2]
      simp
  rw [e]
theorem Twin.ask (h : Twin t s s') {j : Nat} (c : t.br.getD j 0 < 0) : askF s' j = askF s j := by
  unfold askF
  rw [h.brl]
  by_cases hj : j < s.br.length
  · rw [decide_eq_true hj, Bool.true_and, Bool.true_and]
    have := (h.new j hj c).1
    by_cases d : s.br.getD j 0 < 0
    · rw [decide_eq_true d, decide_eq_true (this.2 d)]
    · rw [decide_eq_false d, decide_eq_false (fun e => d (this.1 e))]
  · rw [decide_eq_false hj, Bool.false_and, Bool.false_and]
theorem Twin.asko (h : Twin t s s') {j : Nat} (hj : j < s.br.length) (c : 0 ≤ t.br.getD j 0) : askF s' j = true ∧ askF s j = false := by
  obtain ⟨h1, h2, -⟩ := h.old j hj c
  refine ⟨askF_of (by rw [h.brl]; exact hj) h2, ?_⟩
  cases e : askF s j with
  | false => rfl
  | true => have := (askF_lt e).2; omega
theorem Twin.acc (h : Twin t s s') (hf : Fit x s) : ∀ j, j ≤ s.br.length → (∀ b, acc (srvP x s) (askF s) j b = (acc (srvP (fxT x t) s') (askF s') j b && decide (t.br.getD b 0 < 0))) ∧ ∀ b, b < j → 0 ≤ t.br.getD b 0 → acc (srvP (fxT x t) s') (askF s') j b = true
  | 0, _ => ⟨fun b => rfl, fun b hb => by omega⟩
  | j + 1, hj => by
    obtain ⟨i1, i2⟩ := Twin.acc h hf j (by omega)
    by_cases c : t.br.getD j 0 < 0
    · have ea := h.ask c
      have eP : srvP (fxT x t) s' (fun b => Bf.acc (srvP (fxT x t) s') (askF s') j b || decide (b = j)) ↔ srvP x s (fun b => Bf.acc (srvP x s) (askF s) j b || decide (b = j)) := by
        rw [h.srv hf.brl]
        have e : (fun b => (Bf.acc (srvP (fxT x t) s') (askF s') j b || decide (b = j)) && decide (t.br.getD b 0 < 0)) = fun b => Bf.acc (srvP x s) (askF s) j b || decide (b = j) := by
          funext b
          rw [i1 b]
          by_cases e : b = j
          · subst e; rw [decide_eq_true c]; simp
          · simp [e]
        rw [e]
      by_cases d : askF s j = true ∧ srvP x s (fun b => Bf.acc (srvP x s) (askF s) j b || decide (b = j))
      · rw [acc_yes d.1 d.2, acc_yes (by rw [ea]; exact d.1) (eP.2 d.2)]
        refine ⟨fun b => ?_, fun b hb hb2 => ?_⟩
        · dsimp only
          rw [i1 b]
          by_cases e : b = j
          · subst e; rw [decide_eq_true c]; simp
          · simp [e]
        · have := i2 b (by have : b ≠ j := fun e => by subst e; omega
                           omega) hb2
          simp [this]
      · rw [acc_no d, acc_no (fun e => d ⟨by rw [← ea]; exact e.1, eP.1 e.2⟩)]
        exact ⟨i1, fun b hb hb2 => i2 b (by have : b ≠ j := fun e => by subst e; omega
                                            omega) hb2⟩
    · obtain ⟨a1, a2⟩ := h.asko (j := j) (by omega) (by omega)
      have hP : srvP (fxT x t) s' (fun b => Bf.acc (srvP (fxT x t) s') (askF s') j b || decide (b = j)) := by
        rw [h.srv hf.brl]
        have e : (fun b => (Bf.acc (srvP (fxT x t) s') (askF s') j b || decide (b = j)) && decide (t.br.getD b 0 < 0)) = Bf.acc (srvP x s) (askF s) j := by
          funext b
          rw [i1 b]
          by_cases e : b = j
          · subst e; rw [decide_eq_false c, Bool.and_false, Bool.and_false]
          · simp [e]
        rw [e]
        exact acc_ok (srvP_none hf) j
      rw [acc_yes a1 hP, acc_no (fun e => by rw [a2] at e; cases e.1)]
      refine ⟨fun b => ?_, fun b hb hb2 => ?_⟩
      · dsimp only
        rw [i1 b]
        by_cases e : b = j
        · subst e; rw [decide_eq_false c, Bool.and_false, Bool.and_false]
        · simp [e]
      · by_cases e : b = j
        · simp [e]
        · simp [i2 b (by omega) hb2]
theorem Twin.fail (h : Twin t s s') (hf : Fit x s) {e : Nat} (he : e ≤ s.br.length) : failF (fxT x t) s' e = failF x s e := by
  unfold failF failL
  apply List.filter_congr
  intro j hj
  have hj := List.mem_range.1 hj
  obtain ⟨i1, i2⟩ := h.acc hf (j + 1) (by omega)
  by_cases c : t.br.getD j 0 < 0
  · rw [h.ask c, i1 j, decide_eq_true c, Bool.and_true]
  · obtain ⟨a1, a2⟩ := h.asko (j := j) (by omega) (by omega)
    rw [a1, a2, i2 j (by omega) (by omega)]
    rfl
theorem Twin.mark (h : Twin t s s') (hf : Fit x s) (at1 at2 : Nat) : Twin t (markF x s at1) (markF (fxT x t) s' at2) := by
  have hfl : failF (fxT x t) s' s'.nd.length = failF x s s.nd.length := by rw [h.ndl]; exact h.fail hf (by rw [hf.brl]; exact Nat.le_refl _)
  have hb : ∀ j, j < s.br.length → (markF (fxT x t) s' at2).br.getD j 0 = if j ∈ failF x s s.nd.length then (at2 : Int) else s'.br.getD j 0 := fun j hj => by rw [markF_br (by rw [h.brl]; exact hj), hfl]
  refine ⟨h.am, h.dy, h.ndl, by rw [markF_brl, markF_brl]; exact h.brl, h.dyl, h.dyg, fun j hj c => ?_, fun j hj c => ?_⟩
  · rw [markF_brl] at hj
    obtain ⟨o1, o2, o3⟩ := h.old j hj c
    have hn : j ∉ failF x s s.nd.length := fun hm => by
      have := (askF_lt (mem_failL.1 hm).2.1).2
      omega
    rw [markF_br hj, hb j hj, if_neg hn, if_neg hn]
    exact ⟨o1, o2, o3⟩
  · rw [markF_brl] at hj
    obtain ⟨o1, o2⟩ := h.new j hj c
    rw [markF_br hj, hb j hj]
    refine ⟨?_, o2⟩
    by_cases hm : j ∈ failF x s s.nd.length
    · rw [if_pos hm, if_pos hm]
      omega
    · rw [if_neg hm, if_neg hm]; exact o1
theorem Twin.step (h : Twin t s s') (hf : Fit x s) {y : Hp} {at1 at2 : Nat} {u : St} (hs : Stp x s y at1 u) : ∃ u', Stp (fxT x t) s' y at2 u' ∧ Twin t u u' := by
  have hbl := hf.brl
  have hndl := h.ndl
  have ht : ∀ i, t.dy.getD i 0 ≤ s.dy.getD i 0 := h.dyg
  cases hs with
  | lose i k e1 e2 e3 e4 =>
    have hr := getD_rng hf.amr i
    have h2 : Twin t { s with am := s.am.set i (s.am.getD i 0 - y.amt) } { s' with am := s'.am.set i (s'.am.getD i 0 - y.amt) } := ⟨by show s'.am.set i _ = s.am.set i _; rw [h.am], h.dy, h.ndl, h.brl, h.dyl, h.dyg, h.old, h.new⟩
    exact ⟨_, Stp.lose i k e1 (by rw [h.am]; exact e2) e3 (by rw [h.am]; exact e4), h2.mark (hf.setAm (by omega) i) at1 at2⟩
  | late i k e1 e2 e3 e4 =>
    have h0 : 0 ≤ s.dy.getD i 0 := (getD_all hf.dyr (by have := hf.dyl; omega)).1
    have h2 : Twin t { s with dy := s.dy.set i y.day } { s' with dy := s'.dy.set i y.day } := ⟨h.am, by show s'.dy.set i _ = s.dy.set i _; rw [h.dy], h.ndl, h.brl, by show t.dy.length = (s.dy.set i y.day).length; rw [List.length_set]; exact h.dyl, fun q => by
      show t.dy.getD q 0 ≤ (s.dy.set i y.day).getD q 0
      rw [getD_set _ _ _ _ (by have := hf.dyl; omega)]
      have := ht q
      by_cases c : q = i
      · rw [if_pos c]; subst c; omega
      · rw [if_neg c]; exact this, h.old, h.new⟩
    exact ⟨_, Stp.late i k e1 (by rw [h.am]; exact e2) (by rw [h.dy]; exact e3) e4, h2.mark (hf.setDy (by omega) i) at1 at2⟩
  | ship i j k e1 f1 e2 e3 e4 e5 e6 e7 e8 e9 e10 e11 =>
    have hr := getD_rng hf.amr i
    have hr2 := getD_rng hf.ndr j
    have hc : t.br.getD j 0 < 0 := by
      by_cases c : t.br.getD j 0 < 0
      · exact c
      · have := (h.old j (by omega) (by omega)).1; omega
    obtain ⟨n1, n2⟩ := h.new j (by omega) hc
    have h2 : Twin t { s with am := s.am.set i (s.am.getD i 0 - y.amt), nd := s.nd.set j (s.nd.getD j 0 - y.amt) } { s' with am := s'.am.set i (s'.am.getD i 0 - y.amt), nd := s'.nd.set j (s'.nd.getD j 0 - y.amt) } :=
      ⟨by show s'.am.set i _ = s.am.set i _; rw [h.am], h.dy, by show (s'.nd.set j _).length = (s.nd.set j _).length; rw [List.length_set, List.length_set]; exact h.ndl, h.brl, h.dyl, h.dyg, fun q hq hq2 => by
        obtain ⟨o1, o2, o3⟩ := h.old q hq hq2
        refine ⟨o1, o2, ?_⟩
        show (s'.nd.set j _).getD q 0 = 0
        rw [getD_set _ _ _ _ (by omega), if_neg (fun e => by subst e; omega)]
        exact o3, fun q hq hq2 => by
        obtain ⟨o1, o2⟩ := h.new q hq hq2
        refine ⟨o1, ?_⟩
        show (s'.nd.set j _).getD q 0 = (s.nd.set j _).getD q 0
        rw [getD_set _ _ _ _ (by omega), getD_set _ _ _ _ e3, n2]
        by_cases c : q = j
        · rw [if_pos c, if_pos c]
        · rw [if_neg c, if_neg c]; exact o2⟩
    have hf2 : Fit x { s with am := s.am.set i (s.am.getD i 0 - y.amt), nd := s.nd.set j (s.nd.getD j 0 - y.amt) } := (hf.setAm (v := s.am.getD i 0 - y.amt) (by omega) i).setNd (v := s.nd.getD j 0 - y.amt) (by show 0 ≤ s.nd.getD j 0 - y.amt ∧ s.nd.getD j 0 - y.amt ≤ 1048576; omega) j
    have hdl := h.dyl
    have hfd := hf.dyl
    have hdu := hf.dul
    refine ⟨_, Stp.ship i j k e1 f1 (by rw [h.am]; exact e2) (by omega) (n1.2 e4) ?_ (by rw [h.dy]; exact e6) e7 e8 (by rw [h.am]; exact e9) (by rw [n2]; exact e10) ?_, h2⟩
    · show ((tabL x.fits x.due t.dy).getD i []).getD j false = true
      rw [tabL_get (by omega) (by omega), e5, decide_eq_true (by have := ht i; omega)]
      rfl
    · have := h2.fail hf2 (e := s.nd.length) (by show s.nd.length ≤ s.br.length; omega)
      rw [hndl, this]
      exact e11
/-- the other way: what is permitted of what was left is permitted -/
theorem Twin.back (h : Twin t s s') (hf : Fit x s) {y : Hp} {at1 at2 : Nat} {u' : St} (hs : Stp (fxT x t) s' y at2 u') : ∃ u, Stp x s y at1 u := by
  have hbl := hf.brl
  have hndl := h.ndl
  cases hs with
  | lose i k e1 e2 e3 e4 =>
    rw [h.am] at e2 e4
    exact ⟨_, Stp.lose i k e1 e2 e3 e4⟩
  | late i k e1 e2 e3 e4 =>
    rw [h.am] at e2
    rw [h.dy] at e3
    exact ⟨_, Stp.late i k e1 e2 e3 e4⟩
  | ship i j k e1 f1 e2 e3 e4 e5 e6 e7 e8 e9 e10 e11 =>
    rw [h.am] at e2 e9
    rw [h.dy] at e6
    have hr := getD_rng hf.amr i
    have hr2 := getD_rng hf.ndr j
    have hdl := h.dyl
    have hfd := hf.dyl
    have hdu := hf.dul
    have hc : t.br.getD j 0 < 0 := by
      by_cases c : t.br.getD j 0 < 0
      · exact c
      · have := (h.old j (by omega) (by omega)).2.2; omega
    obtain ⟨n1, n2⟩ := h.new j (by omega) hc
    rw [n2] at e10
    have e5' : ((tabL x.fits x.due t.dy).getD i []).getD j false = true := e5
    rw [tabL_get (by omega) (by omega)] at e5'
    have h2 : Twin t { s with am := s.am.set i (s.am.getD i 0 - y.amt), nd := s.nd.set j (s.nd.getD j 0 - y.amt) } { s' with am := s'.am.set i (s'.am.getD i 0 - y.amt), nd := s'.nd.set j (s'.nd.getD j 0 - y.amt) } :=
      ⟨by show s'.am.set i _ = s.am.set i _; rw [h.am], h.dy, by show (s'.nd.set j _).length = (s.nd.set j _).length; rw [List.length_set, List.length_set]; exact h.ndl, h.brl, h.dyl, h.dyg, fun q hq hq2 => by
        obtain ⟨o1, o2, o3⟩ := h.old q hq hq2
        refine ⟨o1, o2, ?_⟩
        show (s'.nd.set j _).getD q 0 = 0
        rw [getD_set _ _ _ _ (by omega), if_neg (fun e => by subst e; omega)]
        exact o3, fun q hq hq2 => by
        obtain ⟨o1, o2⟩ := h.new q hq hq2
        refine ⟨o1, ?_⟩
        show (s'.nd.set j _).getD q 0 = (s.nd.set j _).getD q 0
        rw [getD_set _ _ _ _ (by omega), getD_set _ _ _ _ (by omega), n2]
        by_cases c : q = j
        · rw [if_pos c, if_pos c]
        · rw [if_neg c, if_neg c]; exact o2⟩
    have hf2 : Fit x { s with am := s.am.set i (s.am.getD i 0 - y.amt), nd := s.nd.set j (s.nd.getD j 0 - y.amt) } := (hf.setAm (v := s.am.getD i 0 - y.amt) (by omega) i).setNd (v := s.nd.getD j 0 - y.amt) (by show 0 ≤ s.nd.getD j 0 - y.amt ∧ s.nd.getD j 0 - y.amt ≤ 1048576; omega) j
    refine ⟨_, Stp.ship i j k e1 f1 e2 (by omega) (n1.1 e4) (Bool.and_eq_true_iff.1 e5').1 e6 e7 e8 e9 e10 ?_⟩
    have := h2.fail hf2 (e := s.nd.length) (by show s.nd.length ≤ s.br.length; omega)
    rw [← this, ← hndl]
    exact e11
end
theorem res_fx (k : Bk) (t : St) : fxB (resF k t) = fxT (fxB k) t := by
  have h1 := res_due k t
  show (⟨(fxB (resF k t)).fits, (fxB (resF k t)).due⟩ : Fx) = _
  rw [h1, res_fits]
  rfl
theorem res_twin {k : Bk} {t : St} (e1 : t.am.length = k.sups.length) (e2 : t.nd.length = k.reqs.length) (e3 : t.dy.length = k.sups.length) (e4 : t.br.length = k.reqs.length) : Twin t t (beginF (resF k t)) := by
  have hl := begin_len (resF k t)
  have hr := res_len k t
  have hbr : ∀ j, j < t.br.length → (beginF (resF k t)).br.getD j 0 = -1 := fun j hj => begin_br _ j (by omega)
  refine ⟨res_am e1, res_dy e3, by omega, by omega, rfl, fun i => Int.le_refl _, fun j hj c => ⟨c, by rw [hbr j hj]; omega, ?_⟩, fun j hj c => ⟨?_, ?_⟩⟩
  · rw [res_nd e2 e4, mskL_getD, if_neg]
    intro h
    have := (askF_lt h).2
    omega
  · rw [hbr j hj]; omega
  · rw [res_nd e2 e4, mskL_getD, if_pos (askF_of hj c)]
theorem res_formed {k : Bk} {t : St} (hk : formedB k) (hf : Fit (fxB k) t) (e1 : t.am.length = k.sups.length) (e2 : t.nd.length = k.reqs.length) (e3 : t.dy.length = k.sups.length) : formedB (resF k t) := by
  obtain ⟨h1, h2, h3, h4, h5, h6⟩ := hk
  have hr := res_len k t
  refine ⟨by omega, by omega, fun x hx => ?_, fun x hx => ?_, ?_, fun r hr2 => ?_⟩
  · simp only [resF, List.mem_map, List.mem_range] at hx
    obtain ⟨i, hi, rfl⟩ := hx
    exact ⟨getD_all hf.amr (by omega), getD_all hf.dyr (by omega)⟩
  · simp only [resF, List.mem_map, List.mem_range] at hx
    obtain ⟨i, hi, rfl⟩ := hx
    refine ⟨?_, ?_⟩
    · show 0 ≤ (if 0 ≤ t.br.getD i 0 then (0 : Int) else t.nd.getD i 0) ∧ (if 0 ≤ t.br.getD i 0 then (0 : Int) else t.nd.getD i 0) ≤ 1048576
      have := getD_all hf.ndr (i := i) (by omega)
      split <;> omega
    · have hy : k.reqs.getD i ⟨0, 0, 0, 0, 0, 0⟩ ∈ k.reqs := by
        rw [List.getD_eq_getElem?_getD, List.getElem?_eq_getElem hi]
        exact List.getElem_mem _
      exact (h4 _ hy).2
  · show (tabL k.fits (k.reqs.map (·.due)) t.dy).length = _
    rw [tabL_length]; omega
  · have hr3 : r ∈ tabL k.fits (k.reqs.map (·.due)) t.dy := hr2
    rw [tabL_row hr3, List.length_map]; omega
theorem run_valid {k : Bk} {l : List Hp} {s : St} (h : runF k l = some s) : validB (resF k s) := by
  obtain ⟨hfb, hfit, hheld⟩ := run_keep h
  obtain ⟨n1, n2, n3, n4⟩ := run_len h
  have hfb2 := res_formed hfb hfit n1 n2 n3
  refine ⟨hfb2, ?_⟩
  have ht := res_twin n1 n2 n3 n4
  have := ht.fail hfit (e := s.nd.length) (by rw [n2, n4]; exact Nat.le_refl _)
  rw [res_fx, (res_len k s).2, ← n2, this]
  exact fail_nil hfit hheld _
end Go.Proofs.Ytgnipfjjkliibaa

/-
  Honour, plain: what is due is permitted to be shipped, one after the other.
  Conditions: none.
-/
namespace Go.Proofs.Ytgnipfjjkliibaa
open Go Bf
/-- what is not broken is met so -/
structure Plan (x : Fx) (s : St) (a : Nat → Nat → Int) : Prop where
  nn : ∀ i, i < s.am.length → ∀ j, j < s.nd.length → 0 ≤ a i j
  ok : ∀ i, i < s.am.length → ∀ j, j < s.nd.length → a i j ≠ 0 → askF s j = true ∧ (x.fits.getD i []).getD j false = true ∧ s.dy.getD i 0 ≤ x.due.getD j 0
  row : ∀ i, i < s.am.length → sumN s.nd.length (a i) ≤ s.am.getD i 0
  col : ∀ j, j < s.nd.length → sumN s.am.length (fun i => a i j) = if askF s j = true then s.nd.getD j 0 else 0
theorem Plan.congr {x : Fx} {s : St} {a b : Nat → Nat → Int} (h : Plan x s a) (e : ∀ i, i < s.am.length → ∀ j, j < s.nd.length → b i j = a i j) : Plan x s b :=
  ⟨fun i hi j hj => by rw [e i hi j hj]; exact h.nn i hi j hj, fun i hi j hj hne => h.ok i hi j hj (by rw [← e i hi j hj]; exact hne), fun i hi => by rw [sumN_congr (fun j hj => e i hi j hj)]; exact h.row i hi,
   fun j hj => by rw [sumN_congr (f := fun i => b i j) (g := fun i => a i j) (fun i hi => e i hi j hj)]; exact h.col j hj⟩
theorem Plan.held {x : Fx} {s : St} {a : Nat → Nat → Int} (h : Plan x s a) (hf : Fit x s) : Held x s := by
  have l3 := hf.dyl
  have l4 := hf.dul
  refine feas_part.2 ⟨a, ⟨fun i hi j hj => ?_, fun i hi j hj hne => ?_, fun i hi => ?_, fun j hj => ?_⟩⟩
  · have hj' : j < (mskL s.nd (askF s)).length := hj
    rw [mskL_length] at hj'
    exact h.nn i hi j hj'
  · have hi' : i < s.am.length := hi
    have hj' : j < (mskL s.nd (askF s)).length := hj
    rw [mskL_length] at hj'
    obtain ⟨-, o1, o2⟩ := h.ok i hi j hj' hne
    show ((tabL x.fits x.due s.dy).getD i []).getD j false = true
    rw [tabL_get (by omega) (by omega), o1, decide_eq_true o2]
    rfl
  · show sumN (mskL s.nd (askF s)).length (a i) ≤ s.am.getD i 0
    rw [mskL_length]
    exact h.row i hi
  · have hj' : j < (mskL s.nd (askF s)).length := hj
    rw [mskL_length] at hj'
    show sumN s.am.length (fun i => a i j) = (mskL s.nd (askF s)).getD j 0
    rw [mskL_getD]
    exact h.col j hj'
/-- one ship -/
theorem Plan.ship {x : Fx} {s : St} {a : Nat → Nat → Int} (h : Plan x s a) (hf : Fit x s) {i j : Nat} {day : Int} (at_ : Nat) (hi : i < s.am.length) (hj : j < s.nd.length) (hd : x.due.getD j 0 = day) (hp : 0 < a i j) :
    ∃ s', stepF x s ⟨3, (i : Int), (j : Int), day, a i j⟩ at_ = some s' ∧ Fit x s' ∧ Plan x s' (fun u q => if u = i ∧ q = j then 0 else a u q) ∧ (s'.br = s.br ∧ s'.dy = s.dy) ∧ (s'.am.length = s.am.length ∧ s'.nd.length = s.nd.length) ∧ (∀ u, s'.am.getD u 0 ≤ s.am.getD u 0) ∧ ∀ q, q ≠ j → s'.nd.getD q 0 = s.nd.getD q 0 := by
  obtain ⟨o1, o2, o3⟩ := h.ok i hi j hj (by omega)
  have hask := askF_lt o1
  have hrow := h.row i hi
  have hcol := h.col j hj
  rw [if_pos o1] at hcol
  have r1 := sumN_le_of_mem (f := a i) (h.nn i hi) hj
  have r2 := sumN_le_of_mem (f := fun u => a u j) (n := s.am.length) (fun u hu => h.nn u hu j hj) hi
  have hr := getD_rng hf.amr i
  have hr2 := getD_rng hf.ndr j
  skip
  have hf' : Fit x { s with am := s.am.set i (s.am.getD i 0 - a i j), nd := s.nd.set j (s.nd.getD j 0 - a i j) } := (hf.setAm (v := s.am.getD i 0 - a i j) (by omega) i).setNd (v := s.nd.getD j 0 - a i j) (by show 0 ≤ s.nd.getD j 0 - a i j ∧ s.nd.getD j 0 - a i j ≤ 1048576; omega) j
  have hpl : Plan x { s with am := s.am.set i (s.am.getD i 0 - a i j), nd := s.nd.set j (s.nd.getD j 0 - a i j) } (fun u q => if u = i ∧ q = j then 0 else a u q) := by
    refine ⟨fun u hu q hq => ?_, fun u hu q hq hne => ?_, fun u hu => ?_, fun q hq => ?_⟩
    · have hu' : u < (s.am.set i _).length := hu
      have hq' : q < (s.nd.set j _).length := hq
      rw [List.length_set] at hu' hq'
      split
      · exact Int.le_refl _
      · exact h.nn u hu' q hq'
    · have hu' : u < (s.am.set i _).length := hu
      have hq' : q < (s.nd.set j _).length := hq
      rw [List.length_set] at hu' hq'
      split at hne
      · exact absurd rfl hne
      · exact h.ok u hu' q hq' hne
    · have hu' : u < (s.am.set i _).length := hu
      rw [List.length_set] at hu'
      show sumN (s.nd.set j _).length _ ≤ (s.am.set i _).getD u 0
      rw [List.length_set, getD_set _ _ _ _ hi]
      by_cases e : u = i
      · subst e
        rw [if_pos rfl, sumN_upd (f := a u) (k := j) hj (fun q hq => by rw [if_neg (fun z => hq z.2)])]
        rw [if_pos ⟨rfl, rfl⟩]
        omega
      · rw [if_neg e, sumN_congr (g := a u) (fun q _ => by rw [if_neg (fun z => e z.1)])]
        exact h.row u hu'
    · have hq' : q < (s.nd.set j _).length := hq
      rw [List.length_set] at hq'
      show sumN (s.am.set i _).length _ = if askF s q = true then (s.nd.set j _).getD q 0 else 0
      rw [List.length_set, getD_set _ _ _ _ hj]
      by_cases e : q = j
      · subst e
        rw [if_pos rfl, if_pos o1, sumN_upd (f := fun u => a u q) (k := i) hi (fun u hu => by rw [if_neg (fun z => hu z.1)])]
        rw [if_pos ⟨rfl, rfl⟩]
        omega
      · rw [if_neg e, sumN_congr (g := fun u => a u q) (fun u _ => by rw [if_neg (fun z => e z.2)])]
        exact h.col q hq'
  refine ⟨_, stepF_some.2 (Stp.ship i j rfl rfl rfl hi hj hask.2 o2 (by show s.dy.getD i 0 ≤ day; omega) (by show day ≤ x.due.getD j 0; omega) (by show 1 ≤ a i j; omega) (by show a i j ≤ s.am.getD i 0; omega) (by show a i j ≤ s.nd.getD j 0; omega) ?_), hf', hpl, ⟨rfl, rfl⟩, ⟨List.length_set, List.length_set⟩, fun u => ?_, fun q hq => ?_⟩
  · exact fail_nil hf' (hpl.held hf') _
  · show (s.am.set i _).getD u 0 ≤ _
    rw [getD_set _ _ _ _ hi]
    by_cases e : u = i
    · rw [if_pos e, e]
      show s.am.getD i 0 - a i j ≤ s.am.getD i 0
      omega
    · rw [if_neg e]; exact Int.le_refl _
  · show (s.nd.set j _).getD q 0 = _
    rw [getD_set _ _ _ _ hj, if_neg hq]
/-- an allocation without what is due on a day, of the requests before one, and of the supplies before one -/
def za (x : Fx) (day : Int) (a : Nat → Nat → Int) (j i : Nat) : Nat → Nat → Int := fun u q => if x.due.getD q 0 = day ∧ (q < j ∨ (q = j ∧ u < i)) then 0 else a u q
structure MidS (x : Fx) (s : St) (day : Int) (s1 : St) (b : Nat → Nat → Int) : Prop where
  fit : Fit x s1
  plan : Plan x s1 b
  br : s1.br = s.br
  dy : s1.dy = s.dy
  aml : s1.am.length = s.am.length
  ndl : s1.nd.length = s.nd.length
  amle : ∀ u, s1.am.getD u 0 ≤ s.am.getD u 0
  nde : ∀ q, x.due.getD q 0 ≠ day → s1.nd.getD q 0 = s.nd.getD q 0
theorem ship_in {x : Fx} {s s1 : St} {day : Int} {a : Nat → Nat → Int} {am : List (List Int)} {at_ : Nat} {L : List Hp} {j : Nat} (hj : j < s.nd.length) (hd : x.due.getD j 0 = day) (ham : ∀ u q, u < s.am.length → q < s.nd.length → amv am u q = a u q) (h0 : ∀ u, u < s.am.length → 0 ≤ a u j) (hs : stepsF x s at_ L = some s1) (hm : MidS x s day s1 (za x day a j 0)) :
    ∀ i, i ≤ s.am.length → ∃ s2, stepsF x s at_ (L ++ shIn am j day i) = some s2 ∧ MidS x s day s2 (za x day a j i)
  | 0, _ => ⟨s1, by rw [shIn]; simpa using hs, hm⟩
  | i + 1, hi => by
    obtain ⟨s2, e2, m2⟩ := ship_in hj hd ham h0 hs hm i (by omega)
    have ez : za x day a j i i j = a i j := by
      rw [za, if_neg]
      omega
    have hn0 := h0 i (by omega)
    rw [shIn_succ, ham i j (by omega) hj]
    by_cases hp : 0 < a i j
    · obtain ⟨s3, e3, f3, p3, ⟨b3, d3⟩, ⟨l3, l4⟩, le3, ne3⟩ := m2.plan.ship m2.fit (i := i) (j := j) (day := day) (at_ + (L ++ shIn am j day i).length) (by rw [m2.aml]; omega) (by rw [m2.ndl]; exact hj) hd (by rw [ez]; exact hp)
      rw [ez] at e3
      refine ⟨s3, ?_, f3, p3.congr fun u hu q hq => ?_, b3.trans m2.br, d3.trans m2.dy, by rw [l3, m2.aml], by rw [l4, m2.ndl], fun u => Int.le_trans (le3 u) (m2.amle u), fun q hq => by rw [ne3 q (fun e => hq (by rw [e]; exact hd)), m2.nde q hq]⟩
      · rw [if_pos hp, ← List.append_assoc, stepsF_append, e2]
        show (stepF x s2 _ _).bind _ = _
        rw [e3]
        rfl
      · unfold za
        by_cases c : u = i ∧ q = j
        · obtain ⟨rfl, rfl⟩ := c
          rw [if_pos ⟨hd, by omega⟩, if_pos (And.intro rfl rfl)]
        · rw [if_neg c]
          by_cases c2 : x.due.getD q 0 = day ∧ (q < j ∨ (q = j ∧ u < i))
          · rw [if_pos c2, if_pos (by omega)]
          · rw [if_neg c2, if_neg (by omega)]
    · rw [if_neg hp, List.append_nil]
      refine ⟨s2, e2, m2.fit, m2.plan.congr fun u hu q hq => ?_, m2.br, m2.dy, m2.aml, m2.ndl, m2.amle, m2.nde⟩
      unfold za
      by_cases c2 : x.due.getD q 0 = day ∧ (q < j ∨ (q = j ∧ u < i))
      · rw [if_pos c2, if_pos (by omega)]
      · rw [if_neg c2]
        by_cases c : u = i ∧ q = j
        · obtain ⟨rfl, rfl⟩ := c
          rw [if_pos ⟨hd, by omega⟩]
          omega
        · rw [if_neg (by omega)]
theorem ship_out {x : Fx} {s : St} {day : Int} {a : Nat → Nat → Int} {am : List (List Int)} {at_ : Nat} {reqs : List Rq} (hdue : x.due = reqs.map (·.due)) (ham : ∀ u q, u < s.am.length → q < s.nd.length → amv am u q = a u q) (hf : Fit x s) (hp : Plan x s a) :
    ∀ j, j ≤ s.nd.length → ∃ s2, stepsF x s at_ (shOut am reqs day s.am.length j) = some s2 ∧ MidS x s day s2 (za x day a j 0)
  | 0, _ => ⟨s, rfl, hf, hp.congr fun u hu q hq => by rw [za, if_neg (by omega)], rfl, rfl, rfl, rfl, fun u => Int.le_refl _, fun q _ => rfl⟩
  | j + 1, hj => by
    obtain ⟨s2, e2, m2⟩ := ship_out hdue ham hf hp (at_ := at_) (am := am) (day := day) j (by omega)
    rw [shOut_succ, ← hdue]
    by_cases hd : x.due.getD j 0 = day
    · rw [if_pos hd]
      obtain ⟨s3, e3, m3⟩ := ship_in (a := a) (by omega) hd ham (fun u hu => hp.nn u hu j (by omega)) e2 m2 s.am.length (Nat.le_refl _)
      refine ⟨s3, e3, m3.fit, m3.plan.congr fun u hu q hq => ?_, m3.br, m3.dy, m3.aml, m3.ndl, m3.amle, m3.nde⟩
      rw [m3.aml] at hu
      unfold za
      by_cases c : x.due.getD q 0 = day ∧ (q < j ∨ (q = j ∧ u < s.am.length))
      · rw [if_pos c, if_pos (by omega)]
      · rw [if_neg c, if_neg (by omega)]
    · rw [if_neg hd, List.append_nil]
      refine ⟨s2, e2, m2.fit, m2.plan.congr fun u hu q hq => ?_, m2.br, m2.dy, m2.aml, m2.ndl, m2.amle, m2.nde⟩
      unfold za
      by_cases c : x.due.getD q 0 = day ∧ (q < j ∨ (q = j ∧ u < 0))
      · rw [if_pos c, if_pos (by omega)]
      · rw [if_neg c, if_neg]
        rintro ⟨c1, c2⟩
        have : q = j := by omega
        subst this
        exact hd c1
/-- what Flow gives is a plan -/
theorem plan_of {k : Bk} {s : St} (hf : Fit (fxB k) s) (e1 : s.am.length = k.sups.length) (e2 : s.nd.length = k.reqs.length) (e4 : s.br.length = k.reqs.length) {a : Nat → Nat → Int} (h : LexMax (pbOf (resF k s).fits (beginF (resF k s)).am (beginF (resF k s)).nd) a) : Plan (fxB k) s a := by
  have hp := h.1.part
  rw [res_am e1, res_nd e2 e4] at hp
  have l3 := hf.dyl
  have l4 := hf.dul
  have nn : ∀ i, i < s.am.length → ∀ j, j < s.nd.length → 0 ≤ a i j := fun i hi j hj => hp.nn i hi j (by show j < (mskL s.nd (askF s)).length; rw [mskL_length]; exact hj)
  have col : ∀ j, j < s.nd.length → sumN s.am.length (fun i => a i j) = if askF s j = true then s.nd.getD j 0 else 0 := fun j hj => by
    have := hp.col j (by show j < (mskL s.nd (askF s)).length; rw [mskL_length]; exact hj)
    have e : (pbOf (resF k s).fits s.am (mskL s.nd (askF s))).need j = (mskL s.nd (askF s)).getD j 0 := rfl
    rw [e, mskL_getD] at this
    exact this
  refine ⟨nn, fun i hi j hj hne => ?_, fun i hi => ?_, col⟩
  · have ho := hp.ok i hi j (by show j < (mskL s.nd (askF s)).length; rw [mskL_length]; exact hj) hne
    have ho' : ((tabL (fxB k).fits (fxB k).due s.dy).getD i []).getD j false = true := ho
    rw [tabL_get (by omega) (by omega)] at ho'
    obtain ⟨o1, o2⟩ := Bool.and_eq_true_iff.1 ho'
    refine ⟨?_, o1, of_decide_eq_true o2⟩
    cases e : askF s j with
    | true => rfl
    | false =>
      have hc := col j hj
      rw [e] at hc
      have := sumN_le_of_mem (f := fun u => a u j) (n := s.am.length) (fun u hu => nn u hu j hj) hi
      have h1 := nn i hi j hj
      simp only [Bool.false_eq_true, if_false] at hc
      skip
      omega
  · have := hp.row i hi
    have e : (pbOf (resF k s).fits s.am (mskL s.nd (askF s))).m = s.nd.length := mskL_length _ _
    rw [e] at this
    exact this
theorem amv_of {a : Nat → Nat → Int} {m n : Nat} {i j : Nat} (hi : i < n) (hj : j < m) : amv (allocOf a m n) i j = a i j := by
  simp [amv, allocOf, rowOf, List.getD_eq_getElem?_getD, hi, hj]
/-- what is to be shipped on a day is permitted; behind it nothing is missing of what is due on it -/
theorem ships_run {k : Bk} {l : List Hp} {s : St} (hrun : runF k l = some s) {day : Int} (hex : ∃ a, LexMax (pbOf (resF k s).fits (beginF (resF k s)).am (beginF (resF k s)).nd) a) :
    ∃ s2, runF k (l ++ shipsOf (resF k s) day) = some s2 ∧ Fit (fxB k) s2 ∧ s2.br = s.br ∧ s2.am.length = s.am.length ∧ s2.nd.length = s.nd.length ∧ (∀ u, s2.am.getD u 0 ≤ s.am.getD u 0) ∧ (∀ q, (fxB k).due.getD q 0 ≠ day → s2.nd.getD q 0 = s.nd.getD q 0) ∧ ∀ q, q < s.nd.length → askF s q = true → (fxB k).due.getD q 0 = day → s2.nd.getD q 0 = 0 := by
  obtain ⟨a, ha⟩ := hex
  obtain ⟨hfb, hfit, hheld⟩ := run_keep hrun
  obtain ⟨n1, n2, n3, n4⟩ := run_len hrun
  obtain ⟨hv, hst⟩ := run_steps hrun
  have hpl := plan_of hfit n1 n2 n4 ha
  have hl := begin_len (resF k s)
  have hr := res_len k s
  have hdue : (fxB k).due = (resF k s).reqs.map (·.due) := (res_due k s).symm
  obtain ⟨s2, e2, m2⟩ := ship_out (at_ := l.length) (am := alF (resF k s).fits (beginF (resF k s)).am (beginF (resF k s)).nd) (day := day) hdue (fun u q hu hq => by rw [alF_eq ha]; exact amv_of (by omega) (by omega)) hfit hpl s.nd.length (Nat.le_refl _)
  have e3 : shOut (alF (resF k s).fits (beginF (resF k s)).am (beginF (resF k s)).nd) (resF k s).reqs day s.am.length s.nd.length = shipsOf (resF k s) day := by
    rw [shipsOf, show s.am.length = (resF k s).sups.length by omega, show s.nd.length = (resF k s).reqs.length by omega]
  rw [e3] at e2
  refine ⟨s2, ?_, m2.fit, m2.br, m2.aml, m2.ndl, m2.amle, m2.nde, fun q hq hask hd => ?_⟩
  · unfold runF
    rw [if_pos hv, stepsF_append, hst]
    show stepsF (fxB k) s (0 + l.length) _ = _
    rw [Nat.zero_add]
    exact e2
  · have hc := m2.plan.col q (by rw [m2.ndl]; exact hq)
    have ha2 : askF s2 q = true := by unfold askF at hask ⊢; rw [m2.br]; exact hask
    rw [if_pos ha2] at hc
    rw [← hc]
    exact sumN_zero fun i _ => by rw [za, if_pos ⟨hd, .inl hq⟩]
/-! the reasons with more happenings behind -/
/-- what is in the list of ships -/
theorem shIn_mem {am : List (List Int)} {j : Nat} {day : Int} {n : Nat} {h : Hp} (hm : h ∈ shIn am j day n) : h.kind = 3 ∧ h.day = day ∧ 1 ≤ h.amt ∧ h.req = (j : Int) ∧ ∃ i, i < n ∧ amv am i j = h.amt := by
  simp only [shIn, List.mem_flatMap, List.mem_range] at hm
  obtain ⟨i, hi, hm⟩ := hm
  split at hm
  · rename_i hp
    obtain rfl := List.mem_singleton.1 hm
    exact ⟨rfl, rfl, by show 1 ≤ amv am i j; omega, rfl, i, hi, rfl⟩
  · cases hm
theorem ships_mem {k : Bk} {l : List Hp} {s : St} (hrun : runF k l = some s) {day : Int} (hex : ∃ a, LexMax (pbOf (resF k s).fits (beginF (resF k s)).am (beginF (resF k s)).nd) a) {h : Hp} (hm : h ∈ shipsOf (resF k s) day) :
    h.kind = 3 ∧ h.day = day ∧ 1 ≤ h.amt ∧ ∃ j : Nat, h.req = (j : Int) ∧ j < k.reqs.length ∧ (fxB k).due.getD j 0 = day ∧ s.br.getD j 0 < 0 := by
  obtain ⟨a, ha⟩ := hex
  obtain ⟨hfb, hfit, hheld⟩ := run_keep hrun
  obtain ⟨n1, n2, n3, n4⟩ := run_len hrun
  have hpl := plan_of hfit n1 n2 n4 ha
  have hl := begin_len (resF k s)
  have hr := res_len k s
  have hdue : (fxB k).due = (resF k s).reqs.map (·.due) := (res_due k s).symm
  simp only [shipsOf, shOut, List.mem_flatMap, List.mem_range] at hm
  obtain ⟨j, hj, hm⟩ := hm
  split at hm
  · rename_i hd
    obtain ⟨h1, h2, h3, h4, i, hi, h5⟩ := shIn_mem hm
    rw [alF_eq ha, amv_of (by omega) (by omega)] at h5
    have ho := (hpl.ok i (by omega) j (by omega) (by omega)).1
    exact ⟨h1, h2, h3, j, h4, by omega, by rw [hdue]; exact hd, (askF_lt ho).2⟩
  · cases hm
end Go.Proofs.Ytgnipfjjkliibaa

/-
  Honour: the law HonourShip.
  Conditions: none.
-/
namespace Go.Proofs.Ytgnipfjjkliibaa
open Go Bf
theorem req_due {k : Bk} {q : Nat} {y : Rq} (h : k.reqs[q]? = some y) : y.due = (fxB k).due.getD q 0 := by
  show y.due = (k.reqs.map (·.due)).getD q 0
  rw [List.getD_eq_getElem?_getD, List.getElem?_map, h]; rfl
theorem ships_len (k : Bk) (day : Int) : (shipsOf k day).length ≤ k.reqs.length * k.sups.length := shOut_len _ _ _ _ _
attribute [local irreducible] Tr Exec Stab HasTy Go.Addr.add IntKind.wrap
end Go.Proofs.Ytgnipfjjkliibaa

/-
  Honour, plain: day by day what is due is shipped.
  Conditions: none.
-/
namespace Go.Proofs.Ytgnipfjjkliibaa
open Go Bf
theorem run_nil {X : Bk} (h : validB X) : runF X [] = some (beginF X) := by
  unfold runF
  rw [if_pos h]
  rfl
theorem ships_sum {m : Nat} : ∀ {L : List Hp}, (∀ h ∈ L, h.kind = 3 ∧ ∃ j : Nat, h.req = (j : Int) ∧ j < m) → (L.map (·.amt)).sum = sumN m fun q => shipN L q
  | [], _ => by rw [sumN_zero fun q _ => by simp [shipN]]; rfl
  | h :: L, hL => by
    obtain ⟨h3, j, hj, hjm⟩ := hL h (List.mem_cons_self ..)
    have ih := ships_sum (L := L) fun z hz => hL z (List.mem_cons_of_mem _ hz)
    have e : sumN m (fun q => shipN (h :: L) q) = sumN m (fun q => (if q = j then h.amt else 0) + shipN L q) := sumN_congr fun q hq => by
      rw [shipN_cons]
      by_cases c : q = j
      · rw [if_pos c, if_pos ⟨h3, by omega⟩]
      · rw [if_neg c, if_neg (by omega)]
    rw [List.map_cons, List.sum_cons, ih, e, sumN_add, sumN_one h.amt hjm]
def gv (X0 : Bk) (n d : Nat) : Int := sumN n fun q => if (fxB X0).due.getD q 0 < (d : Int) then (beginF X0).nd.getD q 0 else 0
structure DayI (X0 X : Bk) (d : Nat) (g : Int) : Prop where
  valid : validB X
  sl : X.sups.length = X0.sups.length
  rl : X.reqs.length = X0.reqs.length
  due : (fxB X).due = (fxB X0).due
  am : ∀ u, (beginF X).am.getD u 0 ≤ (beginF X0).am.getD u 0
  old : ∀ q, q < X0.reqs.length → (fxB X0).due.getD q 0 < (d : Int) → (beginF X).nd.getD q 0 = 0
  new : ∀ q, q < X0.reqs.length → (d : Int) ≤ (fxB X0).due.getD q 0 → (beginF X).nd.getD q 0 = (beginF X0).nd.getD q 0
  g : g = gv X0 X0.reqs.length d
theorem gv_rng {X0 : Bk} (h : validB X0) {n d : Nat} (hn : n ≤ 5) : 0 ≤ gv X0 n d ∧ gv X0 n d ≤ 5242880 := by
  have hf := begin_fit h.1
  have := sum_small (n := n) (f := fun q => if (fxB X0).due.getD q 0 < (d : Int) then (beginF X0).nd.getD q 0 else 0) fun q _ => by
    have := getD_rng hf.ndr q
    split <;> omega
  unfold gv
  omega
theorem day_zero {X0 : Bk} (h : validB X0) : DayI X0 X0 0 0 := by
  have hf := begin_fit h.1
  have hl := begin_len X0
  have hdu := hf.dul
  have hd : ∀ q, q < X0.reqs.length → 0 ≤ (fxB X0).due.getD q 0 := fun q hq => (getD_all hf.dur (by omega)).1
  refine ⟨h, rfl, rfl, rfl, fun u => Int.le_refl _, fun q hq hlt => by have := hd q hq; omega, fun q _ _ => rfl, ?_⟩
  unfold gv
  rw [sumN_zero fun q hq => by rw [if_neg (by have := hd q hq; omega)]]
theorem day_skip {X0 X : Bk} {d : Nat} {g : Int} (h : DayI X0 X d g) (hno : ∀ q, q < X0.reqs.length → (fxB X0).due.getD q 0 ≠ (d : Int)) : DayI X0 X (d + 1) g := by
  refine ⟨h.valid, h.sl, h.rl, h.due, h.am, fun q hq hlt => h.old q hq (by have := hno q hq; omega), fun q hq hle => h.new q hq (by omega), ?_⟩
  rw [h.g]
  unfold gv
  refine sumN_congr fun q hq => ?_
  have := hno q hq
  by_cases c : (fxB X0).due.getD q 0 < (d : Int)
  · rw [if_pos c, if_pos (by omega)]
  · rw [if_neg c, if_neg (by omega)]
theorem day_ship {X0 X : Bk} {d : Nat} {g : Int} (h : DayI X0 X d g) (hex : ∃ a, LexMax (pbOf (resF X (beginF X)).fits (beginF (resF X (beginF X))).am (beginF (resF X (beginF X))).nd) a) :
    ∃ s2, runF X (shipsOf (resF X (beginF X)) (d : Int)) = some s2 ∧ DayI X0 (resF X s2) (d + 1) (g + ((shipsOf (resF X (beginF X)) (d : Int)).map (·.amt)).sum) ∧ ∀ z ∈ shipsOf (resF X (beginF X)) (d : Int), 0 ≤ z.amt ∧ z.amt ≤ 1048576 := by
  have hrun := run_nil h.valid
  obtain ⟨s2, hrun2, hfit2, hbr2, l1, l2, hle, hne, hzero⟩ := ships_run hrun (day := (d : Int)) hex
  rw [List.nil_append] at hrun2
  have hmem := fun (y : Hp) (hy : y ∈ shipsOf (resF X (beginF X)) (d : Int)) => ships_mem hrun hex hy
  have hamt := run_amt hrun2
  have hlen := begin_len X
  obtain ⟨z1, z2, z3, z4⟩ := run_len hrun2
  have hf := begin_fit h.valid.1
  have hrl := h.rl
  have hsl := h.sl
  have hask : ∀ q, q < X.reqs.length → askF (beginF X) q = true := fun q hq => askF_of (by omega) (by rw [begin_br X q hq]; omega)
  have hask2 : ∀ q, q < X.reqs.length → askF s2 q = true := fun q hq => askF_of (by omega) (by rw [hbr2, begin_br X q hq]; omega)
  have end_ : ∀ q, q < X.reqs.length → (beginF (resF X s2)).nd.getD q 0 = s2.nd.getD q 0 := fun q hq => by rw [res_nd z2 z4, mskL_getD, if_pos (hask2 q hq)]
  have eff := (steps_eff (run_steps hrun2).2 (by omega)).1
  have hd' := h.due
  refine ⟨s2, hrun2, ⟨run_valid hrun2, by rw [(res_len X s2).1]; exact hsl, by rw [(res_len X s2).2]; exact hrl, by rw [res_due]; exact hd', fun u => ?_, fun q hq hlt => ?_, fun q hq hge => ?_, ?_⟩, fun z hz => ?_⟩
  · rw [res_am z1]
    exact Int.le_trans (hle u) (h.am u)
  · rw [end_ q (by omega)]
    by_cases c : (fxB X0).due.getD q 0 = (d : Int)
    · exact hzero q (by omega) (hask q (by omega)) (by rw [hd']; exact c)
    · rw [hne q (by rw [hd']; exact c)]
      exact h.old q hq (by omega)
  · rw [end_ q (by omega), hne q (by rw [hd']; omega)]
    exact h.new q hq (by omega)
  · rw [ships_sum (m := X0.reqs.length) (fun z hz => by
      obtain ⟨y1, -, -, j, y4, y5, -⟩ := hmem z hz
      exact ⟨y1, j, y4, by omega⟩), h.g]
    unfold gv
    rw [← sumN_add]
    refine sumN_congr fun q hq => ?_
    have e := (eff q).2.1
    by_cases c : (fxB X0).due.getD q 0 = (d : Int)
    · rw [hzero q (by omega) (hask q (by omega)) (by rw [hd']; exact c)] at e
      have := h.new q hq (by omega)
      rw [if_neg (by omega), if_pos (by omega)]
      omega
    · rw [hne q (by rw [hd']; exact c)] at e
      by_cases c2 : (fxB X0).due.getD q 0 < (d : Int)
      · rw [if_pos c2, if_pos (by omega)]; omega
      · rw [if_neg c2, if_neg (by omega)]; omega
  · have h3 := (hmem z hz).1
    have h4 := (hmem z hz).2.2.1
    have := hamt z hz (by omega)
    omega
theorem gv_end {X0 : Bk} (n : Nat) : gv X0 (n + 1) 1024 = gv X0 n 1024 + if (fxB X0).due.getD n 0 < 1024 then (beginF X0).nd.getD n 0 else 0 := rfl
end Go.Proofs.Ytgnipfjjkliibaa

/-
  Honour: the law HonourAll.
  Conditions: none.
-/
namespace Go.Proofs.Ytgnipfjjkliibaa
open Go Bf
theorem req_amt {k : Bk} {q : Nat} {y : Rq} (h : k.reqs[q]? = some y) : y.amount = (beginF k).nd.getD q 0 := by
  show y.amount = (k.reqs.map (·.amount)).getD q 0
  rw [List.getD_eq_getElem?_getD, List.getElem?_map, h]; rfl
theorem sup_amt {k : Bk} {q : Nat} {y : Sp} (h : k.sups[q]? = some y) : y.amount = (beginF k).am.getD q 0 := by
  show y.amount = (k.sups.map (·.amount)).getD q 0
  rw [List.getD_eq_getElem?_getD, List.getElem?_map, h]; rfl
theorem any_not {l : List Rq} {d : Int} (h : (l.any fun r => decide (r.due = d)) = false) (k : Bk) (hk : k.reqs = l) : ∀ q, q < k.reqs.length → (fxB k).due.getD q 0 ≠ d := fun q hq e => by
  obtain ⟨y, hy⟩ := get_of_lt hq
  rw [← req_due hy] at e
  have : (l.any fun r => decide (r.due = d)) = true := List.any_eq_true.2 ⟨y, by rw [← hk]; exact List.mem_of_getElem? hy, decide_eq_true e⟩
  rw [h] at this
  cases this
attribute [local irreducible] Tr Exec Stab HasTy Go.Addr.add IntKind.wrap
set_option maxHeartbeats 32000000 in
theorem alllaw_fn (M : Mem) (v : Value) (k : Bk) (h : RBk M v k) (A : Option Addr) (c : Nat) (l : List Hp) (hl : SlOf 5 RHp M (.slice A l.length c) l) :
    Fn0 Try.prog 8 [v, .slice A l.length c] M (fun r _ => r = .bool true) := by
  have h0 := h
  obtain ⟨Bs, ds, Br, dr, Bf, df, Bd, dd, rfl, g1, g2, g3⟩ := h
  refine Fn.intro Try.func8 rfl rfl Try.ntmps8 rfl fun E F => ?_
  (repeat (first | ((with_reducible refine Tr.step rfl ?_); (first | ((with_reducible refine Knd.assign ?_); (refine Exec.stab rfl (Stab.assign rfl) rfl ?_)) | ((with_reducible refine Knd.box ?_); (refine Exec.box rfl rfl (fun b => ?_))))) | (with_reducible first | apply Tr.next | apply Tr.seq | apply Tr.region | apply Tr.nil)))
  generalize b = b2
  ((refine Tr.step rfl ?_)); refine Exec.call0 rfl (sane33_fn M) rfl ?_
  rintro _ M1 hm1 rfl
  (repeat (first | ((with_reducible refine Tr.step rfl ?_); (first | ((with_reducible refine Knd.move ?_); (refine Exec.stab rfl (Stab.move rfl) rfl ?_)) | ((with_reducible refine Knd.load ?_); (refine Exec.stab rfl (Stab.loadW rfl (tysOk.get rfl) rfl (by repeat (first | exact Has.here | apply Has.there)) rfl) rfl ?_)) | ((with_reducible refine Knd.unOp ?_); (refine Exec.stab rfl (Stab.not rfl) rfl ?_)))) | (with_reducible first | apply Tr.next | apply Tr.seq | apply Tr.region | apply Tr.nil | apply Tr.skip) | (refine Tr.cond_bf rfl (by first | (with_reducible rfl) | (with_reducible assumption) | (with_reducible exact Bool.not_true) | (with_reducible exact Bool.not_false)) ?_)))
  ((refine Tr.step rfl ?_)); refine Exec.call0 rfl (few33_fn M1 _ k (h0.mono hm1) A c l) rfl ?_
  rintro _ _ _ ⟨⟨bb, rfl, hfew⟩, rfl⟩
  cases bb with
  | false =>
    (repeat (first | ((with_reducible refine Tr.step rfl ?_); (first | ((with_reducible refine Knd.assign ?_); (refine Exec.stab rfl (Stab.assign rfl) rfl ?_)) | ((with_reducible refine Knd.unOp ?_); (refine Exec.stab rfl (Stab.not rfl) rfl ?_)))) | (with_reducible first | apply Tr.next | apply Tr.seq | apply Tr.region | apply Tr.nil | apply Tr.ret | apply Tr.then_ret) | (refine Tr.cond_bt rfl (by first | (with_reducible rfl) | (with_reducible assumption) | (with_reducible exact Bool.not_true) | (with_reducible exact Bool.not_false)) ?_)))
    (refine Tr.done (by first | exact .inl rfl | exact .inr rfl) rfl (by repeat (first | exact RVs.nil | (apply RVs.cons; (exact RV.tmp rfl)))) (by first | exact Mem.le.refl _ | assumption) (by exact ⟨[_], rfl⟩) ⟨rfl, ?_⟩)
    rfl
  | true =>
  have hfw := hfew rfl
  clear hfew
  obtain ⟨-, w1, w2, -, -, w6⟩ := hfw
  have hdo := do_fn M1 _ k (h0.mono hm1) A c l (hl.mono RHp.mono hm1)
  (repeat (first | ((with_reducible refine Tr.step rfl ?_); (first | ((with_reducible refine Knd.move ?_); (refine Exec.stab rfl (Stab.move rfl) rfl ?_)) | ((with_reducible refine Knd.load ?_); (refine Exec.stab rfl (Stab.loadW rfl (tysOk.get rfl) rfl (by repeat (first | exact Has.here | apply Has.there)) rfl) rfl ?_)) | ((with_reducible refine Knd.unOp ?_); (refine Exec.stab rfl (Stab.not rfl) rfl ?_)))) | (with_reducible first | apply Tr.next | apply Tr.seq | apply Tr.region | apply Tr.nil | apply Tr.skip) | (refine Tr.cond_bf rfl (by first | (with_reducible rfl) | (with_reducible assumption) | (with_reducible exact Bool.not_true) | (with_reducible exact Bool.not_false)) ?_)))
  ((refine Tr.step rfl ?_)); refine Exec.call0 rfl (hdo) rfl ?_
  rintro _ M2 hm2 ⟨w, rfl, hB⟩
  clear hdo
  have hM2 := hm1.trans hm2
  obtain ⟨As, cs, Ar, cr, Af, cf, Ad, cd, rfl, f1, f2, f3⟩ := hB
  cases hrun : runF k l with
  | none =>
    have e1 : doF k l = (zB, 330) := by rw [doF, hrun]
    rw [e1]
    dsimp only
    (repeat (first | ((with_reducible refine Tr.step rfl ?_); (first | ((with_reducible refine Knd.move ?_); (refine Exec.stab rfl (Stab.move rfl) rfl ?_)) | ((with_reducible refine Knd.assign ?_); (refine Exec.stab rfl (Stab.assign rfl) rfl ?_)) | ((with_reducible refine Knd.binOp ?_); (refine Exec.stab rfl (Stab.int rfl rfl rfl) rfl ?_)) | ((with_reducible refine Knd.store ?_); (refine Exec.storeW rfl rfl (tysOk.get rfl) (by repeat (first | exact Upd.here | apply Upd.there)) rfl rfl (by repeat (first | exact AllOne.nil | refine AllOne.cons (by first | rfl | assumption) ?_)) ?_)) | ((with_reducible refine Knd.alloc ?_); (refine Exec.alloc (tysOk.get rfl) rfl rfl (fun b => ?_))) | ((with_reducible refine Knd.extract ?_); (refine Exec.stab rfl (Stab.extract rfl rfl) rfl ?_)))) | (with_reducible first | apply Tr.next | apply Tr.seq | apply Tr.region | apply Tr.nil | apply Tr.ret | apply Tr.then_ret) | (refine Tr.cond_t rfl (by first | (with_reducible assumption) | (with_reducible rfl) | (with_reducible exact (not_not_intro rfl)) | omega) ?_)))
    (refine Tr.done (by first | exact .inl rfl | exact .inr rfl) rfl (by repeat (first | exact RVs.nil | (apply RVs.cons; (exact RV.tmp rfl)))) (by first | exact Mem.le.refl _ | assumption) (by exact ⟨[_, _], rfl⟩) ⟨rfl, ?_⟩)
    rfl
  | some s =>
  have e1 : doF k l = (resF k s, 0) := by rw [doF, hrun]
  rw [e1] at f1 f2 f3 ⊢
  dsimp only at f1 f2 f3 ⊢
  have hvalid := run_valid hrun
  obtain ⟨r1, r2⟩ := res_len k s
  generalize resF k s = X0 at f1 f2 f3 hvalid r1 r2
  have ham := amounts_fn M2 _ X0 ⟨As, cs, Ar, cr, Af, cf, Ad, cd, rfl, f1, f2, f3⟩ (by omega) (by omega)
  (repeat (first | ((with_reducible refine Tr.step rfl ?_); (first | ((with_reducible refine Knd.move ?_); (refine Exec.stab rfl (Stab.move rfl) rfl ?_)) | ((with_reducible refine Knd.assign ?_); (refine Exec.stab rfl (Stab.assign rfl) rfl ?_)) | ((with_reducible refine Knd.load ?_); (refine Exec.stab rfl (Stab.loadW rfl (tysOk.get rfl) rfl (by repeat (first | exact Has.here | apply Has.there)) rfl) rfl ?_)) | ((with_reducible refine Knd.binOp ?_); (refine Exec.stab rfl (Stab.int rfl rfl rfl) rfl ?_)) | ((with_reducible refine Knd.store ?_); (refine Exec.storeW rfl rfl (tysOk.get rfl) (by repeat (first | exact Upd.here | apply Upd.there)) rfl rfl (by repeat (first | exact AllOne.nil | refine AllOne.cons (by first | rfl | assumption) ?_)) ?_)) | ((with_reducible refine Knd.alloc ?_); (refine Exec.alloc (tysOk.get rfl) rfl rfl (fun b => ?_))) | ((with_reducible refine Knd.extract ?_); (refine Exec.stab rfl (Stab.extract rfl rfl) rfl ?_)))) | (with_reducible first | apply Tr.next | apply Tr.seq | apply Tr.region | apply Tr.nil | apply Tr.skip) | (refine Tr.cond_f rfl (by first | (with_reducible assumption) | (with_reducible rfl) | (with_reducible exact (not_not_intro rfl)) | omega) ?_)))
  generalize b = b5
  ((refine Tr.step rfl ?_)); refine Exec.call0 rfl (ham) rfl ?_
  rintro _ M3 hm3 ⟨A1, c1, A2, c2, rfl, q1, q2⟩
  have hM3 := hM2.trans hm3
  clear ham hrun e1
  have hn0 := begin_len X0
  have hgr := fun d => gv_rng hvalid (n := X0.reqs.length) (d := d) (by omega)
  have hgi := fun (i : Nat) (hi : i ≤ X0.reqs.length) => gv_rng hvalid (n := i) (d := 1024) (by omega)
  have i1 := f1.mono RSp.mono hm3
  have i2 := f2.mono RRq.mono hm3
  have i3 := f3.mono RRowB.mono hm3
  clear f1 f2 f3
  (repeat (first | ((with_reducible refine Tr.step rfl ?_); (first | ((with_reducible refine Knd.move ?_); (refine Exec.stab rfl (Stab.move rfl) rfl ?_)) | ((with_reducible refine Knd.assign ?_); (refine Exec.stab rfl (Stab.assign rfl) rfl ?_)) | ((with_reducible refine Knd.load ?_); (refine Exec.stab rfl (Stab.load rfl (tysOk.get rfl) rfl (by repeat (first | exact Has.here | apply Has.there)) rfl) rfl ?_)) | ((with_reducible refine Knd.fieldAddr ?_); (refine Exec.stab rfl (Stab.fieldZ rfl (tysOk.get rfl) rfl rfl (tysOk.get rfl) rfl) rfl ?_)) | ((with_reducible refine Knd.len ?_); (refine Exec.stab rfl (Stab.len rfl (tysOk.get rfl) rfl) rfl ?_)) | ((with_reducible refine Knd.binOp ?_); (refine Exec.stab rfl (Stab.int rfl rfl rfl) rfl ?_)) | ((with_reducible refine Knd.pick ?_); (refine Exec.stab rfl (Stab.pick_fd rfl (by first | (with_reducible assumption) | (with_reducible rfl) | (with_reducible exact (not_not_intro rfl)) | omega) rfl) rfl ?_)) | ((with_reducible refine Knd.extract ?_); (refine Exec.stab rfl (Stab.extract rfl rfl) rfl ?_)))) | (with_reducible first | apply Tr.next | apply Tr.seq | apply Tr.region | apply Tr.nil) | ((refine Tr.guard_y' rfl rfl rfl (by first | (with_reducible assumption) | (with_reducible rfl) | (with_reducible exact (not_not_intro rfl)) | omega) ?_); (first | ((with_reducible refine Knd.move ?_); (refine Exec.stab rfl (Stab.move rfl) rfl ?_)) | ((with_reducible refine Knd.load ?_); (refine Exec.stab rfl (Stab.load rfl (tysOk.get rfl) rfl (by repeat (first | exact Has.here | apply Has.there)) rfl) rfl ?_)) | ((with_reducible refine Knd.fieldAddr ?_); (refine Exec.stab rfl (Stab.fieldZ rfl (tysOk.get rfl) rfl rfl (tysOk.get rfl) rfl) rfl ?_)) | ((with_reducible refine Knd.len ?_); (refine Exec.stab rfl (Stab.len rfl (tysOk.get rfl) rfl) rfl ?_)) | ((with_reducible refine Knd.binOp ?_); (refine Exec.stab rfl (Stab.int rfl rfl rfl) rfl ?_)))) | (with_reducible first | apply Tr.skip | apply Tr.block) | (refine Tr.cond_f rfl (by first | (with_reducible assumption) | (with_reducible rfl) | (with_reducible exact (not_not_intro rfl)) | omega) ?_)))
  refine Tr.loop (α := Nat × Mem × Bk × Int × Option Addr × Nat × Option Addr × Nat × Option Addr × Nat × Option Addr × Nat) (fun y => ⟨170, [(55, .int .i64 (y.1 : Int)), (9, .int .i64 y.2.2.2.1), (7, .slice A1 X0.sups.length c1), (8, .slice A2 X0.reqs.length c2), (5, .pointer (some ⟨b5, 0, none⟩)), (2, .pointer (some ⟨b2, 0, none⟩))], [], y.2.1,
      box b5 27 [.int .i64 y.2.2.1.known, .slice y.2.2.2.2.1 y.2.2.1.sups.length y.2.2.2.2.2.1, .slice y.2.2.2.2.2.2.1 y.2.2.1.reqs.length y.2.2.2.2.2.2.2.1, .slice y.2.2.2.2.2.2.2.2.1 y.2.2.1.fits.length y.2.2.2.2.2.2.2.2.2.1, .slice y.2.2.2.2.2.2.2.2.2.2.1 y.2.2.1.reads y.2.2.2.2.2.2.2.2.2.2.2] :: box b2 27 [.int .i64 k.known, .slice Bs k.sups.length ds, .slice Br k.reqs.length dr, .slice Bf k.fits.length df, .slice Bd k.reads dd] :: ([] ++ F)⟩)
    (fun y => y.1 ≤ 1024 ∧ Mem.le M3 y.2.1 ∧ DayI X0 y.2.2.1 y.1 y.2.2.2.1 ∧ SlOf 6 RSp y.2.1 (.slice y.2.2.2.2.1 y.2.2.1.sups.length y.2.2.2.2.2.1) y.2.2.1.sups ∧ SlOf 6 RRq y.2.1 (.slice y.2.2.2.2.2.2.1 y.2.2.1.reqs.length y.2.2.2.2.2.2.2.1) y.2.2.1.reqs ∧ Fits2 y.2.1 (.slice y.2.2.2.2.2.2.2.2.1 y.2.2.1.fits.length y.2.2.2.2.2.2.2.2.2.1) y.2.2.1.fits)
    (fun y => 1024 - y.1) (0, M3, X0, 0, As, cs, Ar, cr, Af, cf, Ad, cd) ⟨Nat.zero_le _, Mem.le.refl _, day_zero hvalid, i1, i2, i3⟩ (holds_sub (by repeat (first | exact SubFr.nil | refine SubFr.cons rfl ?_)) (by repeat (first | exact DropL.refl | apply DropL.skip))) (fun y hy => ?_)
  clear i1 i2 i3
  obtain ⟨d, M4, X, g, Xs, xs, Xr, xr, Xf, xf, Xd, xd⟩ := y
  obtain ⟨hd, hm4, hday, i1, i2, i3⟩ := hy
  dsimp only at hd hm4 hday i1 i2 i3
  dsimp only
  have hM4 := hM3.trans hm4
  have hXs := hday.sl
  have hXr := hday.rl
  have hg := hday.g
  have hgr1 := hgr d
  rw [← hg] at hgr1
  have hnX := begin_len X
  by_cases hlt : d < 1024
  · (repeat (first | ((with_reducible refine Tr.step rfl ?_); (first | ((with_reducible refine Knd.move ?_); (refine Exec.stab rfl (Stab.move rfl) rfl ?_)) | ((with_reducible refine Knd.assign ?_); (refine Exec.stab rfl (Stab.assign rfl) rfl ?_)) | ((with_reducible refine Knd.load ?_); (refine Exec.stab rfl (Stab.load rfl (tysOk.get rfl) rfl (by repeat (first | exact Has.here | apply Has.there)) rfl) rfl ?_)) | ((with_reducible refine Knd.fieldAddr ?_); (refine Exec.stab rfl (Stab.fieldZ rfl (tysOk.get rfl) rfl rfl (tysOk.get rfl) rfl) rfl ?_)) | ((with_reducible refine Knd.len ?_); (refine Exec.stab rfl (Stab.len rfl (tysOk.get rfl) rfl) rfl ?_)) | ((with_reducible refine Knd.binOp ?_); (refine Exec.stab rfl (Stab.int rfl rfl rfl) rfl ?_)))) | (with_reducible first | apply Tr.next | apply Tr.seq | apply Tr.region | apply Tr.nil | apply Tr.skip | apply Tr.block) | (refine Tr.cond_t rfl (by first | (with_reducible assumption) | (with_reducible rfl) | (with_reducible exact (not_not_intro rfl)) | omega) ?_)))
    refine Tr.loop (α := Nat) (fun y => ⟨170, [(61, .int .i64 (y : Int)), (60, .int .i64 (X.reqs.length : Int)), (59, .slice Xr X.reqs.length xr), (11, .bool ((X.reqs.take y).any fun r => decide (r.due = (d : Int)))), (10, .int .i64 (d : Int)), (55, .int .i64 (d : Int)), (9, .int .i64 g), (7, .slice A1 X0.sups.length c1), (8, .slice A2 X0.reqs.length c2), (5, .pointer (some ⟨b5, 0, none⟩)), (2, .pointer (some ⟨b2, 0, none⟩))], [], M4,
        box b5 27 [.int .i64 X.known, .slice Xs X.sups.length xs, .slice Xr X.reqs.length xr, .slice Xf X.fits.length xf, .slice Xd X.reads xd] :: box b2 27 [.int .i64 k.known, .slice Bs k.sups.length ds, .slice Br k.reqs.length dr, .slice Bf k.fits.length df, .slice Bd k.reads dd] :: ([] ++ F)⟩)
      (fun y => y ≤ X.reqs.length) (fun y => X.reqs.length - y) 0 (Nat.zero_le _) (holds_sub (by repeat (first | exact SubFr.nil | refine SubFr.cons rfl ?_)) (by repeat (first | exact DropL.refl | apply DropL.skip))) (fun i hi => ?_)
    by_cases hlt2 : i < X.reqs.length
    · obtain ⟨r, hr⟩ := get_of_lt hlt2
      obtain ⟨hA, ch, hat, rfl⟩ := i2.elem hr
      have hat0 := any_take (p := fun r : Rq => decide (r.due = (d : Int))) hr
      cases hph : (X.reqs.take i).any fun r => decide (r.due = (d : Int)) with
      | true =>
        rw [hph, Bool.true_or] at hat0
        (repeat (first | ((with_reducible refine Tr.step rfl ?_); (first | ((with_reducible refine Knd.move ?_); (refine Exec.stab rfl (Stab.move rfl) rfl ?_)) | ((with_reducible refine Knd.assign ?_); (refine Exec.stab rfl (Stab.assign rfl) rfl ?_)) | ((with_reducible refine Knd.load ?_); (refine Exec.stab rfl (Stab.loadMA rfl (tysOk.get rfl) rfl (by assumption) (by first | rfl | assumption)) rfl ?_)) | ((with_reducible refine Knd.binOp ?_); (first | (refine Exec.stab rfl (Stab.addi rfl rfl (by omega)) rfl ?_) | (refine Exec.stab rfl (Stab.int rfl rfl rfl) rfl ?_))) | ((with_reducible refine Knd.pick ?_); (refine Exec.stab rfl (Stab.pick_t rfl (by first | (with_reducible rfl) | (with_reducible assumption) | (with_reducible exact Bool.not_true) | (with_reducible exact Bool.not_false)) rfl) rfl ?_)) | ((with_reducible refine Knd.store ?_); (refine Exec.storeW rfl rfl (tysOk.get rfl) (by repeat (first | exact Upd.here | apply Upd.there)) rfl rfl (by repeat (first | exact AllOne.nil | refine AllOne.cons (by first | rfl | assumption) ?_)) ?_)) | ((with_reducible refine Knd.alloc ?_); (refine Exec.alloc (tysOk.get rfl) rfl rfl (fun b => ?_))) | ((with_reducible refine Knd.indexAddr ?_); (refine Exec.stab rfl (Stab.indexAddr rfl rfl (tysOk.get rfl) rfl (tysOk.get rfl) rfl (by omega) (by omega) (by first | rfl | assumption)) rfl ?_)))) | (with_reducible first | apply Tr.next | apply Tr.seq | apply Tr.region | apply Tr.nil) | (refine Tr.guard_s0 rfl rfl rfl (by first | (with_reducible rfl) | (with_reducible assumption) | (with_reducible exact Bool.not_true) | (with_reducible exact Bool.not_false)) rfl rfl ?_) | (with_reducible first | apply Tr.skip | apply Tr.block | apply Tr.in_normal) | (refine Tr.cond_t rfl (by first | (with_reducible assumption) | (with_reducible rfl) | (with_reducible exact (not_not_intro rfl)) | omega) ?_)))
        refine Tr.give (r := box b _ _) (by repeat (first | exact Del.here | apply Del.there)) ?_
        rw [← hat0]
        exact Tr.again (i + 1) (by omega) (by omega) (holds_sub (by repeat (first | exact SubFr.nil | refine SubFr.cons rfl ?_)) (by repeat (first | exact DropL.refl | apply DropL.skip)))
      | false =>
        rw [hph, Bool.false_or] at hat0
        (repeat (first | ((with_reducible refine Tr.step rfl ?_); (first | ((with_reducible refine Knd.move ?_); (refine Exec.stab rfl (Stab.move rfl) rfl ?_)) | ((with_reducible refine Knd.assign ?_); (refine Exec.stab rfl (Stab.assign rfl) rfl ?_)) | ((with_reducible refine Knd.load ?_); (refine Exec.stab rfl (Stab.loadMA rfl (tysOk.get rfl) rfl (by assumption) (by first | rfl | assumption)) rfl ?_)) | ((with_reducible refine Knd.binOp ?_); (first | (refine Exec.stab rfl (Stab.addi rfl rfl (by omega)) rfl ?_) | (refine Exec.stab rfl (Stab.int rfl rfl rfl) rfl ?_))) | ((with_reducible refine Knd.pick ?_); (refine Exec.stab rfl (Stab.pick_f rfl (by first | (with_reducible rfl) | (with_reducible assumption) | (with_reducible exact Bool.not_true) | (with_reducible exact Bool.not_false)) rfl) rfl ?_)) | ((with_reducible refine Knd.store ?_); (refine Exec.storeW rfl rfl (tysOk.get rfl) (by repeat (first | exact Upd.here | apply Upd.there)) rfl rfl (by repeat (first | exact AllOne.nil | refine AllOne.cons (by first | rfl | assumption) ?_)) ?_)) | ((with_reducible refine Knd.alloc ?_); (refine Exec.alloc (tysOk.get rfl) rfl rfl (fun b => ?_))) | ((with_reducible refine Knd.indexAddr ?_); (refine Exec.stab rfl (Stab.indexAddr rfl rfl (tysOk.get rfl) rfl (tysOk.get rfl) rfl (by omega) (by omega) (by first | rfl | assumption)) rfl ?_)))) | (with_reducible first | apply Tr.next | apply Tr.seq | apply Tr.region | apply Tr.nil) | ((refine Tr.guard_l rfl rfl rfl (by first | (with_reducible rfl) | (with_reducible assumption) | (with_reducible exact Bool.not_true) | (with_reducible exact Bool.not_false)) ?_); (first | ((with_reducible refine Knd.move ?_); (refine Exec.stab rfl (Stab.move rfl) rfl ?_)) | ((with_reducible refine Knd.load ?_); (refine Exec.stab rfl (Stab.load rfl (tysOk.get rfl) rfl (by repeat (first | exact Has.here | apply Has.there)) rfl) rfl ?_)) | ((with_reducible refine Knd.fieldAddr ?_); (refine Exec.stab rfl (Stab.fieldZ rfl (tysOk.get rfl) rfl rfl (tysOk.get rfl) rfl) rfl ?_)) | ((with_reducible refine Knd.binOp ?_); (refine Exec.stab rfl (Stab.int rfl rfl rfl) rfl ?_)))) | (with_reducible first | apply Tr.skip | apply Tr.block | apply Tr.in_normal) | (refine Tr.cond_t rfl (by first | (with_reducible assumption) | (with_reducible rfl) | (with_reducible exact (not_not_intro rfl)) | omega) ?_)))
        refine Tr.give (r := box b _ _) (by repeat (first | exact Del.here | apply Del.there)) ?_
        rw [← hat0]
        exact Tr.again (i + 1) (by omega) (by omega) (holds_sub (by repeat (first | exact SubFr.nil | refine SubFr.cons rfl ?_)) (by repeat (first | exact DropL.refl | apply DropL.skip)))
    have ei : X.reqs.length = i := by omega
    subst ei
    rw [List.take_length]
    clear hi hlt2
    cases hany : X.reqs.any fun r => decide (r.due = (d : Int)) with
    | false =>
      have hno := any_not hany X rfl
      rw [hday.due, hXr] at hno
      have hd2 := day_skip hday hno
      (repeat (first | ((with_reducible refine Tr.step rfl ?_); (first | ((with_reducible refine Knd.move ?_); (refine Exec.stab rfl (Stab.move rfl) rfl ?_)) | ((with_reducible refine Knd.binOp ?_); (first | (refine Exec.stab rfl (Stab.addi rfl rfl (by omega)) rfl ?_) | (refine Exec.stab rfl (Stab.int rfl rfl rfl) rfl ?_))) | ((with_reducible refine Knd.unOp ?_); (refine Exec.stab rfl (Stab.not rfl) rfl ?_)))) | (with_reducible first | apply Tr.next | apply Tr.seq | apply Tr.region | apply Tr.nil | apply Tr.exit | apply Tr.then_exit) | ((with_reducible refine Tr.in_exit ?_ ?_); (exact rfl)) | (refine Tr.cond_bt rfl (by first | (with_reducible rfl) | (with_reducible assumption) | (with_reducible exact Bool.not_true) | (with_reducible exact Bool.not_false)) ?_) | (refine Tr.cond_f rfl (by first | (with_reducible assumption) | (with_reducible rfl) | (with_reducible exact (not_not_intro rfl)) | omega) ?_)))
      exact Tr.again (d + 1, M4, X, g, Xs, xs, Xr, xr, Xf, xf, Xd, xd) ⟨by simp only; omega, hm4, hd2, i1, i2, i3⟩ (by simp only; omega) (holds_sub (by repeat (first | exact SubFr.nil | refine SubFr.cons rfl ?_)) (by repeat (first | exact DropL.refl | apply DropL.skip)))
    | true =>
    have hRB : RBk M4 (.agg #[.int .i64 X.known, .slice Xs X.sups.length xs, .slice Xr X.reqs.length xr, .slice Xf X.fits.length xf, .slice Xd X.reads xd]) X := ⟨Xs, xs, Xr, xr, Xf, xf, Xd, xd, rfl, i1, i2, i3⟩
    have hsh := ship0_fn M4 _ X hRB none 0 ([] : List Hp) (SlOf.nil _ _ _) (d : Int)
    have e1 : shipL X [] (d : Int) = (shipsOf (resF X (beginF X)) (d : Int), 0) := by rw [shipL, run_nil hday.valid]; exact if_pos (by omega)
    rw [e1] at hsh
    dsimp only at hsh
    (repeat (first | ((with_reducible refine Tr.step rfl ?_); (first | ((with_reducible refine Knd.move ?_); (refine Exec.stab rfl (Stab.move rfl) rfl ?_)) | ((with_reducible refine Knd.load ?_); (refine Exec.stab rfl (Stab.loadW rfl (tysOk.get rfl) rfl (by repeat (first | exact Has.here | apply Has.there)) rfl) rfl ?_)) | ((with_reducible refine Knd.binOp ?_); (refine Exec.stab rfl (Stab.int rfl rfl rfl) rfl ?_)) | ((with_reducible refine Knd.unOp ?_); (refine Exec.stab rfl (Stab.not rfl) rfl ?_)))) | (with_reducible first | apply Tr.next | apply Tr.seq | apply Tr.region | apply Tr.nil | apply Tr.skip | apply Tr.exit | apply Tr.then_exit) | ((with_reducible refine Tr.in_exit ?_ ?_); (exact rfl)) | (refine Tr.cond_bf rfl (by first | (with_reducible rfl) | (with_reducible assumption) | (with_reducible exact Bool.not_true) | (with_reducible exact Bool.not_false)) ?_) | (refine Tr.cond_f rfl (by first | (with_reducible assumption) | (with_reducible rfl) | (with_reducible exact (not_not_intro rfl)) | omega) ?_)))
    ((refine Tr.step rfl ?_)); refine Exec.call0 rfl (hsh) rfl ?_
    rintro _ M5 hm5 ⟨A9, c9, rfl, hI, hex⟩
    clear hsh e1
    have hmx := hex (beginF X) (run_nil hday.valid) (by omega)
    clear hex
    obtain ⟨s2, hrun2, hday2, hamt⟩ := day_ship hday hmx
    clear hmx
    have hlen := ships_len (resF X (beginF X)) (d : Int)
    rw [(res_len X (beginF X)).1, (res_len X (beginF X)).2] at hlen
    have hlen2 : X.reqs.length * X.sups.length ≤ 5 * 5 := Nat.mul_le_mul (by omega) (by omega)
    generalize shipsOf (resF X (beginF X)) (d : Int) = sh at hI hrun2 hday2 hamt hlen
    have hsr := take_sum_rng (l := sh.map (·.amt)) (by rw [List.length_map]; omega) (fun x hx => by
      obtain ⟨z, hz, rfl⟩ := List.mem_map.1 hx
      exact hamt z hz)
    have hm45 := hm4.trans hm5
    (repeat (first | ((with_reducible refine Tr.step rfl ?_); (first | ((with_reducible refine Knd.move ?_); (refine Exec.stab rfl (Stab.move rfl) rfl ?_)) | ((with_reducible refine Knd.assign ?_); (refine Exec.stab rfl (Stab.assign rfl) rfl ?_)) | ((with_reducible refine Knd.len ?_); (refine Exec.stab rfl (Stab.len rfl (tysOk.get rfl) rfl) rfl ?_)) | ((with_reducible refine Knd.binOp ?_); (refine Exec.stab rfl (Stab.int rfl rfl rfl) rfl ?_)) | ((with_reducible refine Knd.extract ?_); (refine Exec.stab rfl (Stab.extract rfl rfl) rfl ?_)))) | (with_reducible first | apply Tr.next | apply Tr.seq | apply Tr.region | apply Tr.nil | apply Tr.skip | apply Tr.block) | (refine Tr.cond_f rfl (by first | (with_reducible assumption) | (with_reducible rfl) | (with_reducible exact (not_not_intro rfl)) | omega) ?_)))
    refine Tr.loop (α := Nat) (fun y => ⟨170, [(85, .int .i64 (y : Int)), (84, .int .i64 (sh.length : Int)), (83, .slice A9 sh.length c9), (14, .slice A9 sh.length c9), (9, .int .i64 (g + ((sh.map (·.amt)).take y).sum)), (10, .int .i64 (d : Int)), (55, .int .i64 (d : Int)), (7, .slice A1 X0.sups.length c1), (8, .slice A2 X0.reqs.length c2), (5, .pointer (some ⟨b5, 0, none⟩)), (2, .pointer (some ⟨b2, 0, none⟩))], [], M5,
        box b5 27 [.int .i64 X.known, .slice Xs X.sups.length xs, .slice Xr X.reqs.length xr, .slice Xf X.fits.length xf, .slice Xd X.reads xd] :: box b2 27 [.int .i64 k.known, .slice Bs k.sups.length ds, .slice Br k.reqs.length dr, .slice Bf k.fits.length df, .slice Bd k.reads dd] :: ([] ++ F)⟩)
      (fun y => y ≤ sh.length) (fun y => sh.length - y) 0 (Nat.zero_le _) (by rw [List.take_zero, List.sum_nil, Int.add_zero]; exact (holds_sub (by repeat (first | exact SubFr.nil | refine SubFr.cons rfl ?_)) (by repeat (first | exact DropL.refl | apply DropL.skip)))) (fun i hi => ?_)
    by_cases hlt2 : i < sh.length
    · obtain ⟨r, hr⟩ := get_of_lt hlt2
      obtain ⟨hA, ch, hat, rfl⟩ := hI.elem hr
      have hst := take_sum (l := sh.map (·.amt)) (i := i) (x := r.amt) (by rw [List.getElem?_map, hr]; rfl)
      have b1 := hsr i
      have b2' := hsr (i + 1)
      (repeat (first | ((with_reducible refine Tr.step rfl ?_); (first | ((with_reducible refine Knd.move ?_); (refine Exec.stab rfl (Stab.move rfl) rfl ?_)) | ((with_reducible refine Knd.assign ?_); (refine Exec.stab rfl (Stab.assign rfl) rfl ?_)) | ((with_reducible refine Knd.load ?_); (first | (refine Exec.stab rfl (Stab.load rfl (tysOk.get rfl) rfl (by repeat (first | exact Has.here | apply Has.there)) rfl) rfl ?_) | (refine Exec.stab rfl (Stab.loadMA rfl (tysOk.get rfl) rfl (by assumption) (by first | rfl | assumption)) rfl ?_))) | ((with_reducible refine Knd.fieldAddr ?_); (refine Exec.stab rfl (Stab.fieldZ rfl (tysOk.get rfl) rfl rfl (tysOk.get rfl) rfl) rfl ?_)) | ((with_reducible refine Knd.binOp ?_); (first | (refine Exec.stab rfl (Stab.addi rfl rfl (by omega)) rfl ?_) | (refine Exec.stab rfl (Stab.int rfl rfl rfl) rfl ?_))) | ((with_reducible refine Knd.store ?_); (refine Exec.storeW rfl rfl (tysOk.get rfl) (by repeat (first | exact Upd.here | apply Upd.there)) rfl rfl (by repeat (first | exact AllOne.nil | refine AllOne.cons (by first | rfl | assumption) ?_)) ?_)) | ((with_reducible refine Knd.alloc ?_); (refine Exec.alloc (tysOk.get rfl) rfl rfl (fun b => ?_))) | ((with_reducible refine Knd.indexAddr ?_); (refine Exec.stab rfl (Stab.indexAddr rfl rfl (tysOk.get rfl) rfl (tysOk.get rfl) rfl (by omega) (by omega) (by first | rfl | assumption)) rfl ?_)))) | (with_reducible first | apply Tr.next | apply Tr.seq | apply Tr.region | apply Tr.nil | apply Tr.skip | apply Tr.block | apply Tr.in_normal) | (refine Tr.cond_t rfl (by first | (with_reducible assumption) | (with_reducible rfl) | (with_reducible exact (not_not_intro rfl)) | omega) ?_)))
      refine Tr.give (r := box b _ _) (by repeat (first | exact Del.here | apply Del.there)) ?_
      rw [show g + ((sh.map (·.amt)).take i).sum + r.amt = g + ((sh.map (·.amt)).take (i + 1)).sum by rw [hst, Int.add_assoc]]
      exact Tr.again (i + 1) (by omega) (by omega) (holds_sub (by repeat (first | exact SubFr.nil | refine SubFr.cons rfl ?_)) (by repeat (first | exact DropL.refl | apply DropL.skip)))
    have ei : sh.length = i := by omega
    subst ei
    rw [List.take_of_length_le (by rw [List.length_map]; exact Nat.le_refl _)]
    clear hi hlt2 hsr hamt
    have hdo := do_fn M5 _ X (hRB.mono hm5) A9 c9 sh hI
    rw [show doF X sh = (resF X s2, 0) by rw [doF, hrun2]] at hdo
    dsimp only at hdo
    (repeat (first | ((with_reducible refine Tr.step rfl ?_); (first | ((with_reducible refine Knd.move ?_); (refine Exec.stab rfl (Stab.move rfl) rfl ?_)) | ((with_reducible refine Knd.load ?_); (refine Exec.stab rfl (Stab.loadW rfl (tysOk.get rfl) rfl (by repeat (first | exact Has.here | apply Has.there)) rfl) rfl ?_)) | ((with_reducible refine Knd.binOp ?_); (refine Exec.stab rfl (Stab.int rfl rfl rfl) rfl ?_)))) | (with_reducible first | apply Tr.next | apply Tr.seq | apply Tr.region | apply Tr.nil | apply Tr.exit | apply Tr.then_exit) | ((with_reducible refine Tr.in_exit ?_ ?_); (exact rfl)) | (refine Tr.cond_f rfl (by first | (with_reducible assumption) | (with_reducible rfl) | (with_reducible exact (not_not_intro rfl)) | omega) ?_)))
    ((refine Tr.step rfl ?_)); refine Exec.call0 rfl (hdo) rfl ?_
    rintro _ M6 hm6 ⟨w, rfl, hB⟩
    clear hdo
    obtain ⟨Ys, ys, Yr, yr, Yf, yf, Yd, yd, rfl, y1, y2, y3⟩ := hB
    have z1 := (res_len X s2).1
    have z2 := (res_len X s2).2
    (repeat (first | ((with_reducible refine Tr.step rfl ?_); (first | ((with_reducible refine Knd.move ?_); (refine Exec.stab rfl (Stab.move rfl) rfl ?_)) | ((with_reducible refine Knd.assign ?_); (refine Exec.stab rfl (Stab.assign rfl) rfl ?_)) | ((with_reducible refine Knd.binOp ?_); (first | (refine Exec.stab rfl (Stab.addi rfl rfl (by omega)) rfl ?_) | (refine Exec.stab rfl (Stab.int rfl rfl rfl) rfl ?_))) | ((with_reducible refine Knd.pick ?_); (refine Exec.stab rfl (Stab.pick_fd rfl (by first | (with_reducible assumption) | (with_reducible rfl) | (with_reducible exact (not_not_intro rfl)) | omega) rfl) rfl ?_)) | ((with_reducible refine Knd.store ?_); (refine Exec.storeW rfl rfl (tysOk.get rfl) (by repeat (first | exact Upd.here | apply Upd.there)) rfl rfl (by repeat (first | exact AllOne.nil | refine AllOne.cons (by first | rfl | assumption) ?_)) ?_)) | ((with_reducible refine Knd.extract ?_); (refine Exec.stab rfl (Stab.extract rfl rfl) rfl ?_)))) | (with_reducible first | apply Tr.next | apply Tr.seq | apply Tr.region | apply Tr.nil) | ((refine Tr.guard_y' rfl rfl rfl (by first | (with_reducible assumption) | (with_reducible rfl) | (with_reducible exact (not_not_intro rfl)) | omega) ?_); (first | ((with_reducible refine Knd.load ?_); (refine Exec.stab rfl (Stab.load rfl (tysOk.get rfl) rfl (by repeat (first | exact Has.here | apply Has.there)) rfl) rfl ?_)) | ((with_reducible refine Knd.fieldAddr ?_); (refine Exec.stab rfl (Stab.fieldZ rfl (tysOk.get rfl) rfl rfl (tysOk.get rfl) rfl) rfl ?_)) | ((with_reducible refine Knd.len ?_); (refine Exec.stab rfl (Stab.len rfl (tysOk.get rfl) rfl) rfl ?_)) | ((with_reducible refine Knd.binOp ?_); (refine Exec.stab rfl (Stab.int rfl rfl rfl) rfl ?_)))) | (with_reducible first | apply Tr.skip | apply Tr.in_normal) | (refine Tr.cond_f rfl (by first | (with_reducible assumption) | (with_reducible rfl) | (with_reducible exact (not_not_intro rfl)) | omega) ?_)))
    exact Tr.again (d + 1, M6, resF X s2, _, Ys, ys, Yr, yr, Yf, yf, Yd, yd) ⟨by simp only; omega, hm45.trans hm6, hday2, y1, y2, y3⟩ (by simp only; omega) (holds_sub (by repeat (first | exact SubFr.nil | refine SubFr.cons rfl ?_)) (by repeat (first | exact DropL.refl | apply DropL.skip)))
  have ed : d = 1024 := by omega
  subst ed
  clear hlt hd
  have q14 := q1.mono RI.mono hm4
  have q24 := q2.mono RI.mono hm4
  (repeat (first | ((with_reducible refine Tr.step rfl ?_); (first | ((with_reducible refine Knd.move ?_); (refine Exec.stab rfl (Stab.move rfl) rfl ?_)) | ((with_reducible refine Knd.load ?_); (refine Exec.stab rfl (Stab.load rfl (tysOk.get rfl) rfl (by repeat (first | exact Has.here | apply Has.there)) rfl) rfl ?_)) | ((with_reducible refine Knd.fieldAddr ?_); (refine Exec.stab rfl (Stab.fieldZ rfl (tysOk.get rfl) rfl rfl (tysOk.get rfl) rfl) rfl ?_)) | ((with_reducible refine Knd.len ?_); (refine Exec.stab rfl (Stab.len rfl (tysOk.get rfl) rfl) rfl ?_)) | ((with_reducible refine Knd.binOp ?_); (refine Exec.stab rfl (Stab.int rfl rfl rfl) rfl ?_)))) | (with_reducible first | apply Tr.next | apply Tr.seq | apply Tr.region | apply Tr.nil | apply Tr.block | apply Tr.exit | apply Tr.then_exit) | ((with_reducible refine Tr.in_exit ?_ ?_); (exact rfl)) | (refine Tr.cond_f rfl (by first | (with_reducible assumption) | (with_reducible rfl) | (with_reducible exact (not_not_intro rfl)) | omega) ?_)))
  refine Tr.loop (α := Nat) (fun y => ⟨170, [(124, .int .i64 (y : Int)), (123, .int .i64 (X.reqs.length : Int)), (122, .slice Xr X.reqs.length xr), (9, .int .i64 (g - gv X0 y 1024)), (7, .slice A1 X0.sups.length c1), (8, .slice A2 X0.reqs.length c2), (5, .pointer (some ⟨b5, 0, none⟩))], [], M4,
      box b5 27 [.int .i64 X.known, .slice Xs X.sups.length xs, .slice Xr X.reqs.length xr, .slice Xf X.fits.length xf, .slice Xd X.reads xd] :: box b2 27 [.int .i64 k.known, .slice Bs k.sups.length ds, .slice Br k.reqs.length dr, .slice Bf k.fits.length df, .slice Bd k.reads dd] :: ([] ++ F)⟩)
    (fun y => y ≤ X.reqs.length) (fun y => X.reqs.length - y) 0 (Nat.zero_le _) (by rw [show gv X0 0 1024 = 0 from rfl, Int.sub_zero]; exact (holds_sub (by repeat (first | exact SubFr.nil | refine SubFr.cons rfl ?_)) (by repeat (first | exact DropL.refl | apply DropL.skip)))) (fun i hi => ?_)
  by_cases hlt2 : i < X.reqs.length
  · obtain ⟨r, hr⟩ := get_of_lt hlt2
    obtain ⟨hA, ch, hat, rfl⟩ := i2.elem hr
    have ra := req_amt hr
    have rd := req_due hr
    rw [hday.due] at rd
    have gi := hgi i (by omega)
    have gi1 := hgi (i + 1) (by omega)
    have ge := gv_end (X0 := X0) i
    have hold := hday.old i (by omega)
    rw [← ra, ← rd] at hold
    rw [← rd] at ge
    obtain ⟨n, hn⟩ := get_of_lt (xs := (beginF X0).nd) (i := i) (by omega)
    rw [getD_of (d := (0 : Int)) hn] at ge
    obtain ⟨hA3, hat3⟩ := Ints.at (n := X0.reqs.length) (c := c2) q24 hn
    by_cases c : r.due < 1024
    · have e0 := hold c
      rw [if_pos c] at ge
      rw [e0] at hat
      (repeat (first | ((with_reducible refine Tr.step rfl ?_); (first | ((with_reducible refine Knd.move ?_); (refine Exec.stab rfl (Stab.move rfl) rfl ?_)) | ((with_reducible refine Knd.assign ?_); (refine Exec.stab rfl (Stab.assign rfl) rfl ?_)) | ((with_reducible refine Knd.load ?_); (first | (refine Exec.stab rfl (Stab.load rfl (tysOk.get rfl) rfl (by repeat (first | exact Has.here | apply Has.there)) rfl) rfl ?_) | (refine Exec.stab rfl (Stab.loadM rfl (tysOk.get rfl) rfl (by assumption)) rfl ?_) | (refine Exec.stab rfl (Stab.loadMA rfl (tysOk.get rfl) rfl (by assumption) (by first | rfl | assumption)) rfl ?_))) | ((with_reducible refine Knd.fieldAddr ?_); (refine Exec.stab rfl (Stab.fieldZ rfl (tysOk.get rfl) rfl rfl (tysOk.get rfl) rfl) rfl ?_)) | ((with_reducible refine Knd.binOp ?_); (first | (refine Exec.stab rfl (Stab.addi rfl rfl (by omega)) rfl ?_) | (refine Exec.stab rfl (Stab.subi rfl rfl (by omega)) rfl ?_) | (refine Exec.stab rfl (Stab.int rfl rfl rfl) rfl ?_))) | ((with_reducible refine Knd.pick ?_); (refine Exec.stab rfl (Stab.pick_td rfl (by first | (with_reducible assumption) | (with_reducible rfl) | (with_reducible exact (not_not_intro rfl)) | omega) rfl) rfl ?_)) | ((with_reducible refine Knd.store ?_); (refine Exec.storeW rfl rfl (tysOk.get rfl) (by repeat (first | exact Upd.here | apply Upd.there)) rfl rfl (by repeat (first | exact AllOne.nil | refine AllOne.cons (by first | rfl | assumption) ?_)) ?_)) | ((with_reducible refine Knd.alloc ?_); (refine Exec.alloc (tysOk.get rfl) rfl rfl (fun b => ?_))) | ((with_reducible refine Knd.indexAddr ?_); (refine Exec.stab rfl (Stab.indexAddr rfl rfl (tysOk.get rfl) rfl (tysOk.get rfl) rfl (by omega) (by omega) (by first | rfl | assumption)) rfl ?_)))) | (with_reducible first | apply Tr.next | apply Tr.seq | apply Tr.region | apply Tr.nil) | ((refine Tr.guard_y rfl rfl rfl (by first | (with_reducible assumption) | (with_reducible rfl) | (with_reducible exact (not_not_intro rfl)) | omega) ?_); (first | ((with_reducible refine Knd.load ?_); (refine Exec.stab rfl (Stab.load rfl (tysOk.get rfl) rfl (by repeat (first | exact Has.here | apply Has.there)) rfl) rfl ?_)) | ((with_reducible refine Knd.fieldAddr ?_); (refine Exec.stab rfl (Stab.fieldZ rfl (tysOk.get rfl) rfl rfl (tysOk.get rfl) rfl) rfl ?_)) | ((with_reducible refine Knd.binOp ?_); (refine Exec.stab rfl (Stab.int rfl rfl rfl) rfl ?_)))) | (with_reducible first | apply Tr.skip | apply Tr.block | apply Tr.in_normal) | (refine Tr.cond_t rfl (by first | (with_reducible assumption) | (with_reducible rfl) | (with_reducible exact (not_not_intro rfl)) | omega) ?_) | (refine Tr.cond_f rfl (by first | (with_reducible assumption) | (with_reducible rfl) | (with_reducible exact (not_not_intro rfl)) | omega) ?_)))
      refine Tr.give (r := box b _ _) (by repeat (first | exact Del.here | apply Del.there)) ?_
      rw [show g - gv X0 i 1024 - n = g - gv X0 (i + 1) 1024 by rw [ge]; omega]
      exact Tr.again (i + 1) (by omega) (by omega) (holds_sub (by repeat (first | exact SubFr.nil | refine SubFr.cons rfl ?_)) (by repeat (first | exact DropL.refl | apply DropL.skip)))
    · rw [if_neg c, Int.add_zero] at ge
      (repeat (first | ((with_reducible refine Tr.step rfl ?_); (first | ((with_reducible refine Knd.move ?_); (refine Exec.stab rfl (Stab.move rfl) rfl ?_)) | ((with_reducible refine Knd.assign ?_); (refine Exec.stab rfl (Stab.assign rfl) rfl ?_)) | ((with_reducible refine Knd.load ?_); (first | (refine Exec.stab rfl (Stab.load rfl (tysOk.get rfl) rfl (by repeat (first | exact Has.here | apply Has.there)) rfl) rfl ?_) | (refine Exec.stab rfl (Stab.loadMA rfl (tysOk.get rfl) rfl (by assumption) (by first | rfl | assumption)) rfl ?_))) | ((with_reducible refine Knd.fieldAddr ?_); (refine Exec.stab rfl (Stab.fieldZ rfl (tysOk.get rfl) rfl rfl (tysOk.get rfl) rfl) rfl ?_)) | ((with_reducible refine Knd.binOp ?_); (first | (refine Exec.stab rfl (Stab.addi rfl rfl (by omega)) rfl ?_) | (refine Exec.stab rfl (Stab.int rfl rfl rfl) rfl ?_))) | ((with_reducible refine Knd.pick ?_); (refine Exec.stab rfl (Stab.pick_fd rfl (by first | (with_reducible assumption) | (with_reducible rfl) | (with_reducible exact (not_not_intro rfl)) | omega) rfl) rfl ?_)) | ((with_reducible refine Knd.store ?_); (refine Exec.storeW rfl rfl (tysOk.get rfl) (by repeat (first | exact Upd.here | apply Upd.there)) rfl rfl (by repeat (first | exact AllOne.nil | refine AllOne.cons (by first | rfl | assumption) ?_)) ?_)) | ((with_reducible refine Knd.alloc ?_); (refine Exec.alloc (tysOk.get rfl) rfl rfl (fun b => ?_))) | ((with_reducible refine Knd.indexAddr ?_); (refine Exec.stab rfl (Stab.indexAddr rfl rfl (tysOk.get rfl) rfl (tysOk.get rfl) rfl (by omega) (by omega) (by first | rfl | assumption)) rfl ?_)))) | (with_reducible first | apply Tr.next | apply Tr.seq | apply Tr.region | apply Tr.nil) | (refine Tr.guard_n rfl rfl rfl (by first | (with_reducible assumption) | (with_reducible rfl) | (with_reducible exact (not_not_intro rfl)) | omega) rfl rfl ?_) | (with_reducible first | apply Tr.skip | apply Tr.block | apply Tr.in_normal) | (refine Tr.cond_bf rfl (by first | (with_reducible rfl) | (with_reducible assumption) | (with_reducible exact Bool.not_true) | (with_reducible exact Bool.not_false)) ?_) | (refine Tr.cond_t rfl (by first | (with_reducible assumption) | (with_reducible rfl) | (with_reducible exact (not_not_intro rfl)) | omega) ?_) | (refine Tr.cond_f rfl (by first | (with_reducible assumption) | (with_reducible rfl) | (with_reducible exact (not_not_intro rfl)) | omega) ?_)))
      refine Tr.give (r := box b _ _) (by repeat (first | exact Del.here | apply Del.there)) ?_
      rw [← ge]
      exact Tr.again (i + 1) (by omega) (by omega) (holds_sub (by repeat (first | exact SubFr.nil | refine SubFr.cons rfl ?_)) (by repeat (first | exact DropL.refl | apply DropL.skip)))
  have ei : X.reqs.length = i := by omega
  subst ei
  rw [show g - gv X0 X.reqs.length 1024 = 0 by rw [hXr, hg]; omega]
  clear hi hlt2
  (repeat (first | ((with_reducible refine Tr.step rfl ?_); (first | ((with_reducible refine Knd.move ?_); (refine Exec.stab rfl (Stab.move rfl) rfl ?_)) | ((with_reducible refine Knd.load ?_); (refine Exec.stab rfl (Stab.load rfl (tysOk.get rfl) rfl (by repeat (first | exact Has.here | apply Has.there)) rfl) rfl ?_)) | ((with_reducible refine Knd.fieldAddr ?_); (refine Exec.stab rfl (Stab.fieldZ rfl (tysOk.get rfl) rfl rfl (tysOk.get rfl) rfl) rfl ?_)) | ((with_reducible refine Knd.len ?_); (refine Exec.stab rfl (Stab.len rfl (tysOk.get rfl) rfl) rfl ?_)) | ((with_reducible refine Knd.binOp ?_); (refine Exec.stab rfl (Stab.int rfl rfl rfl) rfl ?_)))) | (with_reducible first | apply Tr.next | apply Tr.seq | apply Tr.region | apply Tr.nil | apply Tr.block | apply Tr.exit | apply Tr.then_exit) | ((with_reducible refine Tr.in_exit ?_ ?_); (exact rfl)) | (refine Tr.cond_f rfl (by first | (with_reducible assumption) | (with_reducible rfl) | (with_reducible exact (not_not_intro rfl)) | omega) ?_)))
  refine Tr.loop (α := Nat) (fun y => ⟨170, [(150, .int .i64 (y : Int)), (149, .int .i64 (X.sups.length : Int)), (148, .slice Xs X.sups.length xs), (9, .int .i64 0), (7, .slice A1 X0.sups.length c1)], [], M4, F⟩)
    (fun y => y ≤ X.sups.length) (fun y => X.sups.length - y) 0 (Nat.zero_le _) (holds_sub (by repeat (first | exact SubFr.nil | refine SubFr.cons rfl ?_)) (by repeat (first | exact DropL.refl | apply DropL.skip))) (fun i hi => ?_)
  by_cases hlt2 : i < X.sups.length
  · obtain ⟨r, hr⟩ := get_of_lt hlt2
    obtain ⟨hA, ch, hat, rfl⟩ := i1.elem hr
    have ra := sup_amt hr
    have hfit := begin_fit hday.valid.1
    have rr := getD_rng hfit.amr i
    have rle := hday.am i
    rw [← ra] at rr rle
    obtain ⟨n, hn⟩ := get_of_lt (xs := (beginF X0).am) (i := i) (by omega)
    rw [getD_of (d := (0 : Int)) hn] at rle
    obtain ⟨hA3, hat3⟩ := Ints.at (n := X0.sups.length) (c := c1) q14 hn
    (repeat (first | ((with_reducible refine Tr.step rfl ?_); (first | ((with_reducible refine Knd.move ?_); (refine Exec.stab rfl (Stab.move rfl) rfl ?_)) | ((with_reducible refine Knd.assign ?_); (refine Exec.stab rfl (Stab.assign rfl) rfl ?_)) | ((with_reducible refine Knd.load ?_); (refine Exec.stab rfl (Stab.loadMA rfl (tysOk.get rfl) rfl (by assumption) (by first | rfl | assumption)) rfl ?_)) | ((with_reducible refine Knd.binOp ?_); (refine Exec.stab rfl (Stab.int rfl rfl rfl) rfl ?_)) | ((with_reducible refine Knd.store ?_); (refine Exec.storeW rfl rfl (tysOk.get rfl) (by repeat (first | exact Upd.here | apply Upd.there)) rfl rfl (by repeat (first | exact AllOne.nil | refine AllOne.cons (by first | rfl | assumption) ?_)) ?_)) | ((with_reducible refine Knd.alloc ?_); (refine Exec.alloc (tysOk.get rfl) rfl rfl (fun b => ?_))) | ((with_reducible refine Knd.indexAddr ?_); (refine Exec.stab rfl (Stab.indexAddr rfl rfl (tysOk.get rfl) rfl (tysOk.get rfl) rfl (by omega) (by omega) (by first | rfl | assumption)) rfl ?_)))) | (with_reducible first | apply Tr.next | apply Tr.seq | apply Tr.region | apply Tr.nil | apply Tr.skip | apply Tr.block) | (refine Tr.cond_t rfl (by first | (with_reducible assumption) | (with_reducible rfl) | (with_reducible exact (not_not_intro rfl)) | omega) ?_)))
    (((apply Tr.draw); (kernel_rfl)); (refine TrA.take 0 (by kernel_rfl) rfl (by kernel_rfl) (by first | exact fun _ _ _ h => h | exact fun _ _ _ h => nomatch h.1) (by exact fun _ h => h) rfl (by exact Stab.fieldZ rfl (tysOk.get rfl) rfl rfl (tysOk.get rfl) rfl) rfl rfl ?_); (refine TrA.take 1 (by kernel_rfl) rfl (by kernel_rfl) (by first | exact fun _ _ _ h => h | exact fun _ _ _ h => nomatch h.1) (by exact fun _ h => h) rfl (by exact Stab.load rfl (tysOk.get rfl) rfl (by repeat (first | exact Has.here | apply Has.there)) rfl) rfl rfl ?_); (refine TrA.take 2 (by kernel_rfl) rfl (by kernel_rfl) (by first | exact fun _ _ _ h => h | exact fun _ _ _ h => nomatch h.1) (by exact fun _ h => h) rfl (by exact Stab.int rfl rfl rfl) rfl rfl ?_); (refine TrA.take 3 (by kernel_rfl) rfl (by kernel_rfl) (by first | exact fun _ _ _ h => h | exact fun _ _ _ h => nomatch h.1) (by exact fun _ h => h) rfl (by first | exact Stab.move rfl) rfl rfl ?_); ((refine TrA.takeg 4 (by kernel_rfl) rfl (by kernel_rfl) (by first | exact fun _ _ _ h => h | exact fun _ _ _ h => nomatch h.1) (by exact fun _ h => h) rfl rfl rfl (decide_eq_false (by first | (with_reducible assumption) | (with_reducible rfl) | (with_reducible exact (not_not_intro rfl)) | omega)) (by exact Stab.fieldZ rfl (tysOk.get rfl) rfl rfl (tysOk.get rfl) rfl) rfl rfl ?_)); ((refine TrA.takeg 6 (by kernel_rfl) rfl (by kernel_rfl) (by first | exact fun _ _ _ h => h | exact fun _ _ _ h => nomatch h.1) (by exact fun _ h => h) rfl rfl rfl (decide_eq_false (by first | (with_reducible assumption) | (with_reducible rfl) | (with_reducible exact (not_not_intro rfl)) | omega)) (by first | exact Stab.move rfl) rfl rfl ?_)); ((refine TrA.takeg 7 (by kernel_rfl) rfl (by kernel_rfl) (by first | exact fun _ _ _ h => h | exact fun _ _ _ h => nomatch h.1) (by exact fun _ h => h) rfl rfl rfl (decide_eq_false (by first | (with_reducible assumption) | (with_reducible rfl) | (with_reducible exact (not_not_intro rfl)) | omega)) (by first | exact Stab.move rfl) rfl rfl ?_)); ((refine TrA.takeg 5 (by kernel_rfl) rfl (by kernel_rfl) (by first | exact fun _ _ _ h => h | exact fun _ _ _ h => nomatch h.1) (by exact fun _ h => h) rfl rfl rfl (decide_eq_false (by first | (with_reducible assumption) | (with_reducible rfl) | (with_reducible exact (not_not_intro rfl)) | omega)) (by exact Stab.load rfl (tysOk.get rfl) rfl (by repeat (first | exact Has.here | apply Has.there)) rfl) rfl rfl ?_)); ((refine TrA.takeg 8 (by kernel_rfl) rfl (by kernel_rfl) (by first | exact fun _ _ _ h => h | exact fun _ _ _ h => nomatch h.1) (by exact fun _ h => h) rfl rfl rfl (decide_eq_false (by first | (with_reducible assumption) | (with_reducible rfl) | (with_reducible exact (not_not_intro rfl)) | omega)) (by exact Stab.indexAddr rfl rfl (tysOk.get rfl) rfl (tysOk.get rfl) rfl (by omega) (by omega) (by first | rfl | assumption)) rfl rfl ?_)); ((refine TrA.takeg 9 (by kernel_rfl) rfl (by kernel_rfl) (by first | exact fun _ _ _ h => h | exact fun _ _ _ h => nomatch h.1) (by exact fun _ h => h) rfl rfl rfl (decide_eq_false (by first | (with_reducible assumption) | (with_reducible rfl) | (with_reducible exact (not_not_intro rfl)) | omega)) (by exact Stab.loadM rfl (tysOk.get rfl) rfl (by assumption)) rfl rfl ?_)); ((refine TrA.takeg 10 (by kernel_rfl) rfl (by kernel_rfl) (by first | exact fun _ _ _ h => h | exact fun _ _ _ h => nomatch h.1) (by exact fun _ h => h) rfl rfl rfl (decide_eq_false (by first | (with_reducible assumption) | (with_reducible rfl) | (with_reducible exact (not_not_intro rfl)) | omega)) (by exact Stab.int rfl rfl rfl) rfl rfl ?_)); (refine TrA.take 11 (by kernel_rfl) rfl (by kernel_rfl) (by first | exact fun _ _ _ h => h | exact fun _ _ _ h => nomatch h.1) (by exact fun _ h => h) rfl (by exact Stab.pick_fd rfl (by first | (with_reducible assumption) | (with_reducible rfl) | (with_reducible exact (not_not_intro rfl)) | omega) rfl) rfl rfl ?_); (refine TrA.done (by kernel_rfl) ?_))
    (repeat (first | ((with_reducible refine Tr.step rfl ?_); (first | ((with_reducible refine Knd.move ?_); (refine Exec.stab rfl (Stab.move rfl) rfl ?_)) | ((with_reducible refine Knd.binOp ?_); (refine Exec.stab rfl (Stab.addi rfl rfl (by omega)) rfl ?_)))) | (with_reducible first | apply Tr.next | apply Tr.region | apply Tr.nil | apply Tr.skip | apply Tr.in_normal) | (refine Tr.cond_f rfl (by first | (with_reducible assumption) | (with_reducible rfl) | (with_reducible exact (not_not_intro rfl)) | omega) ?_)))
    refine Tr.give (r := box b _ _) (by repeat (first | exact Del.here | apply Del.there)) ?_
    exact Tr.again (i + 1) (by omega) (by omega) (holds_sub (by repeat (first | exact SubFr.nil | refine SubFr.cons rfl ?_)) (by repeat (first | exact DropL.refl | apply DropL.skip)))
  have ei : X.sups.length = i := by omega
  subst ei
  (repeat (first | ((with_reducible refine Tr.step rfl ?_); (first | ((with_reducible refine Knd.move ?_); (refine Exec.stab rfl (Stab.move rfl) rfl ?_)) | ((with_reducible refine Knd.assign ?_); (refine Exec.stab rfl (Stab.assign rfl) rfl ?_)) | ((with_reducible refine Knd.binOp ?_); (refine Exec.stab rfl (Stab.int rfl rfl rfl) rfl ?_)))) | (with_reducible first | apply Tr.next | apply Tr.seq | apply Tr.region | apply Tr.nil | apply Tr.exit | apply Tr.ret | apply Tr.then_exit) | ((with_reducible refine Tr.in_exit ?_ ?_); (exact rfl)) | (refine Tr.cond_f rfl (by first | (with_reducible assumption) | (with_reducible rfl) | (with_reducible exact (not_not_intro rfl)) | omega) ?_)))
  (refine Tr.done (by first | exact .inl rfl | exact .inr rfl) rfl (by repeat (first | exact RVs.nil | (apply RVs.cons; (exact RV.tmp rfl)))) (by first | exact Mem.le.refl _ | assumption) (by exact ⟨[], rfl⟩) ⟨rfl, ?_⟩)
  rfl
end Go.Proofs.Ytgnipfjjkliibaa

/-
  Honour: how the arguments of the laws read.
  Conditions: none.
-/
namespace Go.Proofs.Ytgnipfjjkliibaa
open Go Bf
open Go.ChangeShapes Go.WideShapes Go.ChangeAt Go.RowKit
set_option maxRecDepth 100000
section
variable {H : Type} {enc : TypeId × Value → H} {W : World} {base : Nat} {v : Value} {w : World} {sp : Nat → Bool} {held : Bool}
theorem u3 : Try.prog.underlying 3 = some (.int .i64) := (tysOk.get (t := 3) rfl).1
theorem u4 : Try.prog.underlying 4 = some .bool := (tysOk.get (t := 4) rfl).1
theorem u5 : Try.prog.underlying 5 = some (.int .u8) := (tysOk.get (t := 5) rfl).1
theorem u22 : Try.prog.underlying 22 = some (.slice 58) := (tysOk.get (t := 22) rfl).1
theorem u23 : Try.prog.underlying 23 = some (.slice 54) := (tysOk.get (t := 23) rfl).1
theorem u24 : Try.prog.underlying 24 = some (.slice 60) := (tysOk.get (t := 24) rfl).1
theorem u28 : Try.prog.underlying 28 = some (.slice 44) := (tysOk.get (t := 28) rfl).1
theorem u60 : Try.prog.underlying 60 = some (.slice 4) := (tysOk.get (t := 60) rfl).1
theorem u25 : ∃ e, Try.prog.underlying 25 = some (.slice e) := ⟨152, by kernel_rfl⟩
theorem c3 : Try.prog.cellsOf 3 = 1 := by kernel_rfl
theorem c4 : Try.prog.cellsOf 4 = 1 := by kernel_rfl
theorem c22 : Try.prog.cellsOf 22 = 1 := by kernel_rfl
theorem c23 : Try.prog.cellsOf 23 = 1 := by kernel_rfl
theorem c24 : Try.prog.cellsOf 24 = 1 := by kernel_rfl
theorem c25 : Try.prog.cellsOf 25 = 1 := by kernel_rfl
theorem c27 : Try.prog.cellsOf 27 = 5 := by kernel_rfl
theorem c44 : Try.prog.cellsOf 44 = 5 := by kernel_rfl
theorem c54 : Try.prog.cellsOf 54 = 6 := by kernel_rfl
theorem c58 : Try.prog.cellsOf 58 = 6 := by kernel_rfl
theorem c60 : Try.prog.cellsOf 60 = 1 := by kernel_rfl
theorem len5' {l : List Value} (h : l.length = 5) : ∃ a b c d e, l = [a, b, c, d, e] := by
  match l, h with
  | [a, b, c, d, e], _ => exact ⟨a, b, c, d, e, rfl⟩
theorem len6' {l : List Value} (h : l.length = 6) : ∃ a b c d e f, l = [a, b, c, d, e, f] := by
  match l, h with
  | [a, b, c, d, e, f], _ => exact ⟨a, b, c, d, e, f, rfl⟩
/-- a struct of six numbers -/
theorem open_six {t : TypeId} {fs : Array Field} {cs : List Value} {fuel : Nat} {x : DataW H × List MemPlace} (hu : Try.prog.underlying t = some (.struct fs)) (hc : Try.prog.cellsOf t = 6)
    (hfs : ∀ i, i < 6 → ∃ fl, fs[i]? = some fl ∧ fl.type = 3 ∧ fl.offset = i) (h : DataW.trod enc Try.prog w 0 sp held fuel t cs = some x) : ∃ a b c d e f : Int, cs = [.int .i64 a, .int .i64 b, .int .i64 c, .int .i64 d, .int .i64 e, .int .i64 f] := by
  obtain ⟨hl, g, hg⟩ := read_struct hu h
  rw [hc] at hl
  obtain ⟨a, b, c, d, e, f, rfl⟩ := len6' hl
  have get : ∀ i, i < 6 → ∃ n, ([a, b, c, d, e, f].drop i).take 1 = [.int .i64 n] := fun i hi => by
    obtain ⟨fl, h1, h2, h3⟩ := hfs i hi
    obtain ⟨y, hy⟩ := hg i fl h1
    rw [h2, h3, c3] at hy
    obtain ⟨n, e, -⟩ := read_int u3 hy
    exact ⟨n, e⟩
  obtain ⟨n0, e0⟩ := get 0 (by omega)
  obtain ⟨n1, e1⟩ := get 1 (by omega)
  obtain ⟨n2, e2⟩ := get 2 (by omega)
  obtain ⟨n3, e3⟩ := get 3 (by omega)
  obtain ⟨n4, e4⟩ := get 4 (by omega)
  obtain ⟨n5, e5⟩ := get 5 (by omega)
  cases e0; cases e1; cases e2; cases e3; cases e4; cases e5
  exact ⟨_, _, _, _, _, _, rfl⟩
theorem open_hap {cs : List Value} {fuel : Nat} {x : DataW H × List MemPlace} (h : DataW.trod enc Try.prog w 0 sp held fuel 44 cs = some x) : ∃ y : Hp, cs = [.int .i64 y.kind, .int .i64 y.sup, .int .i64 y.req, .int .i64 y.day, .int .i64 y.amt] := by
  obtain ⟨hl, g, hg⟩ := read_struct Try.underlying44 h
  rw [c44] at hl
  obtain ⟨a, b, c, d, e, rfl⟩ := len5' hl
  obtain ⟨y0, h0⟩ : ∃ y, DataW.trod enc Try.prog w 0 sp held g 3 (([a, b, c, d, e].drop 0).take (Try.prog.cellsOf 3)) = some y := hg 0 _ rfl
  obtain ⟨y1, h1⟩ : ∃ y, DataW.trod enc Try.prog w 0 sp held g 3 (([a, b, c, d, e].drop 1).take (Try.prog.cellsOf 3)) = some y := hg 1 _ rfl
  obtain ⟨y2, h2⟩ : ∃ y, DataW.trod enc Try.prog w 0 sp held g 3 (([a, b, c, d, e].drop 2).take (Try.prog.cellsOf 3)) = some y := hg 2 _ rfl
  obtain ⟨y3, h3⟩ : ∃ y, DataW.trod enc Try.prog w 0 sp held g 3 (([a, b, c, d, e].drop 3).take (Try.prog.cellsOf 3)) = some y := hg 3 _ rfl
  obtain ⟨y4, h4⟩ : ∃ y, DataW.trod enc Try.prog w 0 sp held g 3 (([a, b, c, d, e].drop 4).take (Try.prog.cellsOf 3)) = some y := hg 4 _ rfl
  rw [c3] at h0 h1 h2 h3 h4
  obtain ⟨n0, e0, -⟩ := read_int u3 h0
  obtain ⟨n1, e1, -⟩ := read_int u3 h1
  obtain ⟨n2, e2, -⟩ := read_int u3 h2
  obtain ⟨n3, e3, -⟩ := read_int u3 h3
  obtain ⟨n4, e4, -⟩ := read_int u3 h4
  cases e0; cases e1; cases e2; cases e3; cases e4
  exact ⟨⟨n0, n1, n2, n3, n4⟩, rfl⟩
theorem open_book {cs : List Value} {fuel : Nat} {x : DataW H × List MemPlace} (h : DataW.trod enc Try.prog w 0 sp held fuel 27 cs = some x) : ∃ k : Bk, RBk (Bf.hp w) (.agg cs.toArray) k := by
  obtain ⟨hl, g, hg⟩ := read_struct Try.underlying27 h
  rw [c27] at hl
  obtain ⟨a, b, c, d, e, rfl⟩ := len5' hl
  obtain ⟨y0, h0⟩ : ∃ y, DataW.trod enc Try.prog w 0 sp held g 3 (([a, b, c, d, e].drop 0).take (Try.prog.cellsOf 3)) = some y := hg 0 _ rfl
  obtain ⟨y1, h1⟩ : ∃ y, DataW.trod enc Try.prog w 0 sp held g 22 (([a, b, c, d, e].drop 1).take (Try.prog.cellsOf 22)) = some y := hg 1 _ rfl
  obtain ⟨y2, h2⟩ : ∃ y, DataW.trod enc Try.prog w 0 sp held g 23 (([a, b, c, d, e].drop 2).take (Try.prog.cellsOf 23)) = some y := hg 2 _ rfl
  obtain ⟨y3, h3⟩ : ∃ y, DataW.trod enc Try.prog w 0 sp held g 24 (([a, b, c, d, e].drop 3).take (Try.prog.cellsOf 24)) = some y := hg 3 _ rfl
  obtain ⟨y4, h4⟩ : ∃ y, DataW.trod enc Try.prog w 0 sp held g 25 (([a, b, c, d, e].drop 4).take (Try.prog.cellsOf 25)) = some y := hg 4 _ rfl
  rw [c3] at h0
  rw [c22] at h1
  rw [c23] at h2
  rw [c24] at h3
  rw [c25] at h4
  obtain ⟨n0, e0, -⟩ := read_int u3 h0
  cases e0
  obtain ⟨sups, As, ca, rfl, hs⟩ := read_slOf (R := RSp) u22 c58 (by omega) (fun f cs y hl hy => by
    obtain ⟨a, b, c, d, e, f, rfl⟩ := open_six Try.underlying58 c58 (fun i hi => match i, hi with | 0, _ => ⟨_, rfl, rfl, rfl⟩ | 1, _ => ⟨_, rfl, rfl, rfl⟩ | 2, _ => ⟨_, rfl, rfl, rfl⟩ | 3, _ => ⟨_, rfl, rfl, rfl⟩ | 4, _ => ⟨_, rfl, rfl, rfl⟩ | 5, _ => ⟨_, rfl, rfl, rfl⟩) hy
    exact ⟨by intro u hu; simp at hu; rcases hu with rfl | rfl | rfl | rfl | rfl | rfl <;> rfl, ⟨a, b, c, d, e, f⟩, rfl⟩) h1
  obtain ⟨reqs, Ar, cr, rfl, hr⟩ := read_slOf (R := RRq) u23 c54 (by omega) (fun f cs y hl hy => by
    obtain ⟨a, b, c, d, e, f, rfl⟩ := open_six Try.underlying54 c54 (fun i hi => match i, hi with | 0, _ => ⟨_, rfl, rfl, rfl⟩ | 1, _ => ⟨_, rfl, rfl, rfl⟩ | 2, _ => ⟨_, rfl, rfl, rfl⟩ | 3, _ => ⟨_, rfl, rfl, rfl⟩ | 4, _ => ⟨_, rfl, rfl, rfl⟩ | 5, _ => ⟨_, rfl, rfl, rfl⟩) hy
    exact ⟨by intro u hu; simp at hu; rcases hu with rfl | rfl | rfl | rfl | rfl | rfl <;> rfl, ⟨a, b, c, d, e, f⟩, rfl⟩) h2
  obtain ⟨fits, Af, cf, rfl, hf⟩ := read_slOf (R := RRowB) u24 c60 (by omega) (fun f cs y hl hy => by
    obtain ⟨a, rfl⟩ := List.length_eq_one_iff.1 hl
    obtain ⟨l, A, c, rfl, hs⟩ := read_slOf (R := RBo) u60 c4 (by omega) (fun f cs y hl hy => by
      obtain ⟨b, rfl⟩ := read_bool u4 hy
      exact ⟨by intro u hu; simp at hu; subst hu; rfl, b, rfl⟩) hy
    exact ⟨by intro u hu; simp at hu; subst hu; rfl, l, A, c, rfl, hs⟩) h3
  obtain ⟨el, hel⟩ := u25
  obtain ⟨rd, Ad, cd, rfl⟩ : ∃ (rd : Nat) (Ad : Option Addr) (cd : Nat), e = .slice Ad rd cd := by
    rcases read_slice hel h4 with rfl | ⟨a, len, cap, f, rfl, -⟩
    · exact ⟨0, none, 0, rfl⟩
    · exact ⟨len, _, cap, rfl⟩
  exact ⟨⟨n0, sups, reqs, fits, rd⟩, As, ca, Ar, cr, Af, cf, Ad, cd, rfl, hs, hr, hf⟩
theorem arg_book (h : Arg enc Try.prog W base 27 v) : ∃ k, RBk (Bf.hp W) v k := by
  obtain ⟨k0, f0, x, g0⟩ := h
  unfold Value.okWide at k0
  rw [Try.underlying27] at k0
  obtain ⟨cs, rfl, -, -⟩ := k0
  obtain ⟨dk, hdk⟩ := open_book g0
  exact ⟨dk, by simpa [Value.cells] using hdk⟩
theorem arg_haps (h : Arg enc Try.prog W base 28 v) : ∃ (l : List Hp) (A : Option Addr) (c : Nat), v = .slice A l.length c ∧ SlOf 5 RHp (Bf.hp W) (.slice A l.length c) l := by
  obtain ⟨k0, f0, x, g0⟩ := h
  obtain ⟨A, len, cap, rfl⟩ := okWide_slice u28 k0
  exact read_slOf (R := RHp) u28 c44 (by omega) (fun f cs y hl hy => by
    obtain ⟨z, rfl⟩ := open_hap hy
    exact ⟨by intro u hu; simp at hu; rcases hu with rfl | rfl | rfl | rfl | rfl <;> rfl, z, rfl⟩) (by simpa [Value.cells] using g0)
end
theorem len2 {l : List Value} (h : l.length = 2) : ∃ a b, l = [a, b] := by
  match l, h with
  | [a, b], _ => exact ⟨a, b, rfl⟩
theorem ownT' : ownKnob Try.checked.prog.godebug = none := by kernel_rfl
theorem laidT' : laidOutB Try.checked.prog = true := by kernel_rfl
end Go.Proofs.Ytgnipfjjkliibaa

/-
  Honour: the row of HonourAll.
  Conditions: none.
-/
namespace Go.Proofs.Ytgnipfjjkliibaa
open Go Bf
open Go.ChangeShapes Go.WideShapes Go.ChangeAt Go.RowKit
set_option maxRecDepth 100000 in
theorem alllaw_lifted (os : Os) (started : os.Started) (H : Type) (enc : TypeId × Value → H) :
    ReturnsInHanded {} Try.checked os 8 .any (Rows.honourAllSpec.pre6 enc Try.prog Try.f8 Rows.honourAllRow.domain false) (Rows.honourAllSpec.post enc Try.prog Try.f8 false true false false) :=
  lift_true (C := Try.checked) (ts := [27, 28]) (tb := 4) started ownT' (by kernel_rfl) Try.func8
    (ChangeSpec.witness6 (enc := enc) (C := Try.checked) false ⟨#[], #[.agg #[.int .i64 0, .slice none 0 0, .slice none 0 0, .slice none 0 0, .slice none 0 0], .slice none 0 0], []⟩ 8 (by kernel_rfl) (by kernel_rfl) (by kernel_rfl) (by kernel_rfl))
    (by rw [Try.params8]) laidT' (by kernel_rfl) rfl (fun ds h => match ds, h with | [_, _], _ => rfl) rfl Try.underlying4
    (fun W base vs hl ha => by
      obtain ⟨v0, v1, rfl⟩ := len2 hl
      obtain ⟨k, hk⟩ := arg_book (ha 0 27 v0 rfl rfl)
      obtain ⟨l, A, c, rfl, hlp⟩ := arg_haps (ha 1 28 v1 rfl rfl)
      exact alllaw_fn _ v0 k hk A c l hlp)
theorem honourAll_holds : Rows.HonourAllSaid :=
  OpenClaim.holds_of_wide 8 Try.f8 rfl rfl rfl rfl rfl rfl rfl ⟨rfl, rfl, rfl, rfl, rfl⟩ rfl rfl rfl rfl rfl (by kernel_rfl) Try.func8 (by kernel_rfl)
    (of_decide_eq_true (by kernel_rfl)) (by unfold Func.isWrapper; first | (rw [if_pos (by decide +kernel)]; kernel_rfl) | (rw [if_neg (by decide +kernel)]; exact ⟨rfl, rfl⟩))
    (fun os started H enc _ => alllaw_lifted os started H enc)
end Go.Proofs.Ytgnipfjjkliibaa

