/-
  Texts of the proof, one after the other.
  Conditions: none.
-/
import Derived.Test.YtgnipfjjkliibaaP8BfOwnN
import Derived.Test.YtgnipfjjkliibaaP8BfDel
import Derived.Test.YtgnipfjjkliibaaP8BfStruct
import Derived.Test.YtgnipfjjkliibaaP8BfSl
import Derived.Test.YtgnipfjjkliibaaP8b
/-
  Honour: result.
  Conditions: none.
-/
namespace Go.Proofs.Ytgnipfjjkliibaa
open Go Bf
attribute [local irreducible] Tr Exec Stab HasTy Go.Addr.add IntKind.wrap
def spV (y : Sp) : List Value := [.int .i64 y.no, .int .i64 y.item, .int .i64 y.plant, .int .i64 y.ready, .int .i64 y.expiry, .int .i64 y.amount]
def rqV (y : Rq) : List Value := [.int .i64 y.no, .int .i64 y.item, .int .i64 y.cust, .int .i64 y.due, .int .i64 y.shelf, .int .i64 y.amount]
theorem spV_len (y : Sp) : (spV y).length = 6 := rfl
theorem rqV_len (y : Rq) : (rqV y).length = 6 := rfl
theorem spV_one (y : Sp) : ∀ u ∈ spV y, u.oneCell' = true := by
  intro u hu
  simp only [spV, List.mem_cons, List.not_mem_nil, or_false] at hu
  rcases hu with rfl | rfl | rfl | rfl | rfl | rfl <;> rfl
theorem rqV_one (y : Rq) : ∀ u ∈ rqV y, u.oneCell' = true := by
  intro u hu
  simp only [rqV, List.mem_cons, List.not_mem_nil, or_false] at hu
  rcases hu with rfl | rfl | rfl | rfl | rfl | rfl <;> rfl
set_option maxHeartbeats 4000000 in
theorem cloneS_fn (M : Mem) (A : Option Addr) (c : Nat) (l : List Sp) (hl : SlOf 6 RSp M (.slice A l.length c) l) (hs : l.length ≤ 1000000) :
    Bf.Fn Try.prog 47 [.slice A l.length c] M [] (fun r M' A' => (∃ B k, r = .slice B l.length k ∧ k ≤ 9223372036854775807 ∧ A' = [ownS 58 6 B l.length k (l.flatMap spV)]) ∧ M = M') := by
  have hrow := SlOf.row hl (fun _ _ h => h) spV_len
  have hcap := SlOf.cells hl
  refine Fn.intro Try.func47 rfl rfl Try.ntmps47 rfl fun E F => ?_
  by_cases hA : A = none
  · obtain ⟨-, -, -, -, hnil, -⟩ := hcap
    have hnil : l = [] := List.eq_nil_of_length_eq_zero (hnil hA)
    subst hnil
    (repeat (first | ((with_reducible refine Tr.step rfl ?_); (first | ((with_reducible refine Knd.move ?_); (refine Exec.stab rfl (Stab.move rfl) rfl ?_)) | ((with_reducible refine Knd.assign ?_); (refine Exec.stab rfl (Stab.assign rfl) rfl ?_)) | ((with_reducible refine Knd.binOp ?_); (refine Exec.stab rfl (Stab.slnil rfl (tysOk.get rfl) rfl) rfl ?_)))) | (with_reducible first | apply Tr.next | apply Tr.seq | apply Tr.region | apply Tr.nil | apply Tr.ret | apply Tr.then_ret) | (refine Tr.cond_t rfl (by first | (with_reducible assumption) | (with_reducible rfl) | (with_reducible exact (not_not_intro rfl)) | omega) ?_)))
    refine Tr.own_nil 58 6 ?_
    refine Tr.doneA (A' := [ownS 58 6 none 0 0 []]) (by first | exact .inl rfl | exact .inr rfl) rfl (by repeat (first | exact RVs.nil | (apply RVs.cons; (exact RV.tmp rfl)))) (Mem.le.refl _) ⟨fun _ h => h, fun h => h⟩ ⟨⟨none, 0, rfl, by omega, rfl⟩, rfl⟩
  · (repeat (first | ((with_reducible refine Tr.step rfl ?_); (first | ((with_reducible refine Knd.move ?_); (refine Exec.stab rfl (Stab.move rfl) rfl ?_)) | ((with_reducible refine Knd.assign ?_); (refine Exec.stab rfl (Stab.assign rfl) rfl ?_)) | ((with_reducible refine Knd.binOp ?_); (refine Exec.stab rfl (Stab.slnil rfl (tysOk.get rfl) rfl) rfl ?_)) | ((with_reducible refine Knd.buildSlice ?_); (refine Exec.buildSlice (tysOk.get rfl) rfl (tysOk.get rfl) rfl rfl rfl rfl rfl (by repeat (first | exact BuildP.nil | ((apply BuildP.one); (rfl); (rfl); (first | rfl | assumption); (repeat (first | exact SetL.z | apply SetL.s))) | ((apply BuildP.many); (rfl); (rfl); (rfl); (rfl); (repeat (first | exact PutL.nil | ((apply PutL.cons); (repeat (first | exact SetL.z | apply SetL.s)))))))) rfl (fun b => ?_))))) | (with_reducible first | apply Tr.next | apply Tr.seq | apply Tr.region | apply Tr.nil | apply Tr.skip) | (refine Tr.cond_f rfl (by first | (with_reducible assumption) | (with_reducible rfl) | (with_reducible exact (not_not_intro rfl)) | omega) ?_)))
    refine Tr.box_own 6 0 (by repeat (first | exact Upd.here | apply Upd.there)) rfl (by intro u hu; cases hu) (by simp [maxLen]) ?_
    ((refine Tr.step rfl ?_))
    refine Exec.append (news := l.flatMap spV) rfl rfl (tysOk.get rfl) rfl (tysOk.get rfl) rfl rfl rfl rfl (by repeat (first | exact Del.here | apply Del.there)) (Src.row hrow) (flatMap_len spV_len _) (flatMap_one spV_one _) (by omega) (by omega) rfl (fun A6 c6 hc6 => ?_)
    rw [Nat.zero_add]
    (repeat (first | ((with_reducible refine Tr.step rfl ?_); (with_reducible refine Knd.assign ?_); (refine Exec.stab rfl (Stab.assign rfl) rfl ?_)) | (with_reducible first | apply Tr.next | apply Tr.nil | apply Tr.ret)))
    refine Tr.doneA (A' := [ownS 58 6 A6 l.length c6 (l.flatMap spV)]) (by first | exact .inl rfl | exact .inr rfl) rfl (by repeat (first | exact RVs.nil | (apply RVs.cons; (exact RV.tmp rfl)))) (Mem.le.refl _) ⟨fun _ h => h, fun h => h⟩ ⟨⟨A6, c6, rfl, hc6, rfl⟩, rfl⟩
set_option maxHeartbeats 4000000 in
theorem cloneR_fn (M : Mem) (A : Option Addr) (c : Nat) (l : List Rq) (hl : SlOf 6 RRq M (.slice A l.length c) l) (hs : l.length ≤ 1000000) :
    Bf.Fn Try.prog 48 [.slice A l.length c] M [] (fun r M' A' => (∃ B k, r = .slice B l.length k ∧ k ≤ 9223372036854775807 ∧ A' = [ownS 54 6 B l.length k (l.flatMap rqV)]) ∧ M = M') := by
  have hrow := SlOf.row hl (fun _ _ h => h) rqV_len
  have hcap := SlOf.cells hl
  refine Fn.intro Try.func48 rfl rfl Try.ntmps48 rfl fun E F => ?_
  by_cases hA : A = none
  · obtain ⟨-, -, -, -, hnil, -⟩ := hcap
    have hnil : l = [] := List.eq_nil_of_length_eq_zero (hnil hA)
    subst hnil
    (repeat (first | ((with_reducible refine Tr.step rfl ?_); (first | ((with_reducible refine Knd.move ?_); (refine Exec.stab rfl (Stab.move rfl) rfl ?_)) | ((with_reducible refine Knd.assign ?_); (refine Exec.stab rfl (Stab.assign rfl) rfl ?_)) | ((with_reducible refine Knd.binOp ?_); (refine Exec.stab rfl (Stab.slnil rfl (tysOk.get rfl) rfl) rfl ?_)))) | (with_reducible first | apply Tr.next | apply Tr.seq | apply Tr.region | apply Tr.nil | apply Tr.ret | apply Tr.then_ret) | (refine Tr.cond_t rfl (by first | (with_reducible assumption) | (with_reducible rfl) | (with_reducible exact (not_not_intro rfl)) | omega) ?_)))
    refine Tr.own_nil 54 6 ?_
    refine Tr.doneA (A' := [ownS 54 6 none 0 0 []]) (by first | exact .inl rfl | exact .inr rfl) rfl (by repeat (first | exact RVs.nil | (apply RVs.cons; (exact RV.tmp rfl)))) (Mem.le.refl _) ⟨fun _ h => h, fun h => h⟩ ⟨⟨none, 0, rfl, by omega, rfl⟩, rfl⟩
  · (repeat (first | ((with_reducible refine Tr.step rfl ?_); (first | ((with_reducible refine Knd.move ?_); (refine Exec.stab rfl (Stab.move rfl) rfl ?_)) | ((with_reducible refine Knd.assign ?_); (refine Exec.stab rfl (Stab.assign rfl) rfl ?_)) | ((with_reducible refine Knd.binOp ?_); (refine Exec.stab rfl (Stab.slnil rfl (tysOk.get rfl) rfl) rfl ?_)) | ((with_reducible refine Knd.buildSlice ?_); (refine Exec.buildSlice (tysOk.get rfl) rfl (tysOk.get rfl) rfl rfl rfl rfl rfl (by repeat (first | exact BuildP.nil | ((apply BuildP.one); (rfl); (rfl); (first | rfl | assumption); (repeat (first | exact SetL.z | apply SetL.s))) | ((apply BuildP.many); (rfl); (rfl); (rfl); (rfl); (repeat (first | exact PutL.nil | ((apply PutL.cons); (repeat (first | exact SetL.z | apply SetL.s)))))))) rfl (fun b => ?_))))) | (with_reducible first | apply Tr.next | apply Tr.seq | apply Tr.region | apply Tr.nil | apply Tr.skip) | (refine Tr.cond_f rfl (by first | (with_reducible assumption) | (with_reducible rfl) | (with_reducible exact (not_not_intro rfl)) | omega) ?_)))
    refine Tr.box_own 6 0 (by repeat (first | exact Upd.here | apply Upd.there)) rfl (by intro u hu; cases hu) (by simp [maxLen]) ?_
    ((refine Tr.step rfl ?_))
    refine Exec.append (news := l.flatMap rqV) rfl rfl (tysOk.get rfl) rfl (tysOk.get rfl) rfl rfl rfl rfl (by repeat (first | exact Del.here | apply Del.there)) (Src.row hrow) (flatMap_len rqV_len _) (flatMap_one rqV_one _) (by omega) (by omega) rfl (fun A6 c6 hc6 => ?_)
    rw [Nat.zero_add]
    (repeat (first | ((with_reducible refine Tr.step rfl ?_); (with_reducible refine Knd.assign ?_); (refine Exec.stab rfl (Stab.assign rfl) rfl ?_)) | (with_reducible first | apply Tr.next | apply Tr.nil | apply Tr.ret)))
    refine Tr.doneA (A' := [ownS 54 6 A6 l.length c6 (l.flatMap rqV)]) (by first | exact .inl rfl | exact .inr rfl) rfl (by repeat (first | exact RVs.nil | (apply RVs.cons; (exact RV.tmp rfl)))) (Mem.le.refl _) ⟨fun _ h => h, fun h => h⟩ ⟨⟨A6, c6, rfl, hc6, rfl⟩, rfl⟩
/-- a list changed up to a place -/
def upTo {α : Type} (f : Nat → α → α) (l ys : List α) (i : Nat) : Prop := ys.length = l.length ∧ ∀ t, ys[t]? = if t < i then (l[t]?).map (f t) else l[t]?
theorem upTo.step {α : Type} {f : Nat → α → α} {l ys : List α} {i : Nat} (h : upTo f l ys i) {y : α} (hy : l[i]? = some y) : upTo f l (ys.set i (f i y)) (i + 1) := by
  refine ⟨by rw [List.length_set]; exact h.1, fun t => ?_⟩
  have hi := (List.getElem?_eq_some_iff.1 hy).1
  by_cases e : t = i
  · subst e
    rw [List.getElem?_set_self (by have := h.1; omega), if_pos (by omega), hy]; rfl
  · rw [List.getElem?_set_ne (by omega), h.2 t]
    by_cases e2 : t < i
    · rw [if_pos e2, if_pos (by omega)]
    · rw [if_neg e2, if_neg (by omega)]
theorem upTo.fin {α : Type} {f : Nat → α → α} {l ys : List α} (h : upTo f l ys l.length) (d : α) : ys = (List.range l.length).map fun i => f i (l.getD i d) := by
  apply List.ext_getElem?
  intro t
  rw [h.2 t]
  by_cases ht : t < l.length
  · simp [ht, List.getD_eq_getElem?_getD]
  · rw [if_neg ht, List.getElem?_eq_none (by omega), List.getElem?_eq_none (by simp; omega)]
theorem upTo.at {α : Type} {f : Nat → α → α} {l ys : List α} {i : Nat} (h : upTo f l ys i) {y : α} (hy : l[i]? = some y) : ys[i]? = some y := by
  rw [h.2 i, if_neg (by omega)]; exact hy
theorem upTo.zero {α : Type} (f : Nat → α → α) (l : List α) : upTo f l l 0 := ⟨rfl, fun t => by rw [if_neg (by omega)]⟩
end Go.Proofs.Ytgnipfjjkliibaa

/-
  Honour: result.
  Conditions: none.
-/
namespace Go.Proofs.Ytgnipfjjkliibaa
open Go Bf
attribute [local irreducible] Tr Exec Stab HasTy Go.Addr.add IntKind.wrap
def resS (s : St) (t : Nat) (y : Sp) : Sp := setSup y (s.am.getD t 0) (s.dy.getD t 0)
def resR (s : St) (t : Nat) (y : Rq) : Rq := setReq y (if 0 ≤ s.br.getD t 0 then 0 else s.nd.getD t 0)
theorem set_twice {α : Type} (l : List α) (i : Nat) (x y : α) : (l.set i x).set i y = l.set i y := List.set_set ..
set_option maxHeartbeats 16000000 in
theorem result_fn (M : Mem) (v w : Value) (k : Bk) (s : St) (h : RBk M v k) (hS : RSt M w (fxB k) s) (hf : Fit (fxB k) s) (hls : s.am.length = k.sups.length) (hlr : s.nd.length = k.reqs.length) :
    Fn0 Try.prog 26 [v, w] M (fun r M' => RBk M' r (resF k s)) := by
  obtain ⟨As, cs, Ar, cr, Af, cf, Ad, cd, rfl, h1, h2, h3⟩ := h
  have hS0 := hS
  obtain ⟨Bf, kf, Ba, ka, Bd, kd, Bn, kn, Bu, ku, Bb, kb, rfl, q1, q2, q3, q4, q5, q6⟩ := hS
  have hsv := serving_fn M _ (fxB k) s hS0 hf
  have z1 := hf.l64
  have z2 := hf.r64
  have z3 := hf.dyl
  have z4 := hf.brl
  refine Fn.intro Try.func26 rfl rfl Try.ntmps26 rfl fun E F => ?_
  (repeat (first | ((with_reducible refine Tr.step rfl ?_); (first | ((with_reducible refine Knd.load ?_); (refine Exec.stab rfl (Stab.load rfl (tysOk.get rfl) rfl (by repeat (first | exact Has.here | apply Has.there)) rfl) rfl ?_)) | ((with_reducible refine Knd.fieldAddr ?_); (refine Exec.stab rfl (Stab.fieldZ rfl (tysOk.get rfl) rfl rfl (tysOk.get rfl) rfl) rfl ?_)) | ((with_reducible refine Knd.box ?_); (refine Exec.box rfl rfl (fun b => ?_))) | ((with_reducible refine Knd.alloc ?_); (refine Exec.alloc (tysOk.get rfl) rfl rfl (fun b => ?_))))) | (with_reducible first | apply Tr.next | apply Tr.seq | apply Tr.region | apply Tr.nil)))
  generalize b = b4
  rename_i b2 b3
  ((refine Tr.step rfl ?_))
  refine Exec.call (A := []) rfl (cloneS_fn M As cs k.sups h1 (by omega)) (List.Perm.refl _) rfl ?_
  rintro _ _ _ - ⟨⟨A1, c1, rfl, hc1, rfl⟩, rfl⟩
  simp only [List.cons_append, List.nil_append]
  (repeat (first | ((with_reducible refine Tr.step rfl ?_); (first | ((with_reducible refine Knd.move ?_); (refine Exec.stab rfl (Stab.move rfl) rfl ?_)) | ((with_reducible refine Knd.load ?_); (refine Exec.stab rfl (Stab.load rfl (tysOk.get rfl) rfl (by repeat (first | exact Has.here | apply Has.there)) rfl) rfl ?_)) | ((with_reducible refine Knd.fieldAddr ?_); (refine Exec.stab rfl (Stab.fieldZ rfl (tysOk.get rfl) rfl rfl (tysOk.get rfl) rfl) rfl ?_)) | ((with_reducible refine Knd.len ?_); (refine Exec.stab rfl (Stab.len rfl (tysOk.get rfl) rfl) rfl ?_)) | ((with_reducible refine Knd.store ?_); (refine Exec.store rfl rfl (tysOk.get rfl) rfl (by first | rfl | assumption) (by repeat (first | exact Upd.here | apply Upd.there)) (by repeat (first | exact SetL.z | apply SetL.s)) ?_)))) | (with_reducible first | apply Tr.next | apply Tr.seq | apply Tr.region | apply Tr.nil | apply Tr.block)))
  refine Tr.loop (α := Nat × List Sp) (fun y => ⟨74, [(14, .int .i64 (y.1 : Int)), (13, .int .i64 (k.sups.length : Int)), (12, .slice A1 k.sups.length c1), (4, .pointer (some ⟨b4, 0, none⟩)), (3, .pointer (some ⟨b3, 0, none⟩)), (2, .pointer (some ⟨b2, 0, none⟩))], [], M,
      ownS 58 6 A1 k.sups.length c1 (y.2.flatMap spV) :: box b4 27 [.int .i64 0, .slice none 0 0, .slice none 0 0, .slice none 0 0, .slice none 0 0] :: box b3 64 [.slice Bf (fxB k).fits.length kf, .slice Ba s.am.length ka, .slice Bd s.dy.length kd, .slice Bn s.nd.length kn, .slice Bu (fxB k).due.length ku, .slice Bb s.br.length kb] :: box b2 27 [.int .i64 k.known, .slice A1 k.sups.length c1, .slice Ar k.reqs.length cr, .slice Af k.fits.length cf, .slice Ad k.reads cd] :: F⟩)
    (fun y => y.1 ≤ k.sups.length ∧ upTo (resS s) k.sups y.2 y.1) (fun y => k.sups.length - y.1) (0, k.sups) ⟨Nat.zero_le _, upTo.zero _ _⟩ (holds_sub (by repeat (first | exact SubFr.nil | refine SubFr.cons rfl ?_)) (by repeat (first | exact DropL.refl | apply DropL.skip))) (fun y hy => ?_)
  obtain ⟨i, ys⟩ := y
  obtain ⟨hi, hup⟩ := hy
  dsimp only at hi hup
  dsimp only
  by_cases hlt : i < k.sups.length
  · obtain ⟨y, hy⟩ := get_of_lt hlt
    have hyy := hup.at hy
    obtain ⟨a, ha⟩ := get_of_lt (xs := s.am) (i := i) (by omega)
    obtain ⟨d, hd⟩ := get_of_lt (xs := s.dy) (i := i) (by omega)
    have had := getD_of (d := (0 : Int)) ha
    have hdd := getD_of (d := (0 : Int)) hd
    obtain ⟨hAa, hata⟩ := Ints.at q2 ha
    obtain ⟨hAd, hatd⟩ := Ints.at q3 hd
    refine Tr.own_some A1 (e := 58) (sz := 6) (m := k.sups.length) (c := c1) (xs := ys.flatMap spV) (by repeat (first | exact Has.here | apply Has.there)) (by omega) (fun hA1 => ?_)
    (repeat (first | ((with_reducible refine Tr.step rfl ?_); (first | ((with_reducible refine Knd.move ?_); (refine Exec.stab rfl (Stab.move rfl) rfl ?_)) | ((with_reducible refine Knd.assign ?_); (refine Exec.stab rfl (Stab.assign rfl) rfl ?_)) | ((with_reducible refine Knd.binOp ?_); (refine Exec.stab rfl (Stab.int rfl rfl rfl) rfl ?_)))) | (with_reducible first | apply Tr.next | apply Tr.seq | apply Tr.region | apply Tr.nil | apply Tr.skip | apply Tr.block) | (refine Tr.cond_t rfl (by first | (with_reducible assumption) | omega) ?_)))
    (((apply Tr.draw); (kernel_rfl)); (refine TrA.take 0 (by kernel_rfl) rfl (by kernel_rfl) (by exact fun _ _ _ h => h) (by exact fun _ h => h) rfl (by exact Stab.fieldZ rfl (tysOk.get rfl) rfl rfl (tysOk.get rfl) rfl) rfl rfl ?_); (refine TrA.take 2 (by kernel_rfl) rfl (by kernel_rfl) (by exact fun _ _ _ h => h) (by exact fun _ h => h) rfl (by first | exact Stab.move rfl) rfl rfl ?_); (refine TrA.take 3 (by kernel_rfl) rfl (by kernel_rfl) (by exact fun _ _ _ h => h) (by exact fun _ h => h) rfl (by exact Stab.fieldZ rfl (tysOk.get rfl) rfl rfl (tysOk.get rfl) rfl) rfl rfl ?_); (refine TrA.take 5 (by kernel_rfl) rfl (by kernel_rfl) (by exact fun _ _ _ h => h) (by exact fun _ h => h) rfl (by first | exact Stab.move rfl) rfl rfl ?_); (refine TrA.take 1 (by kernel_rfl) rfl (by kernel_rfl) (by exact fun _ _ _ h => h) (by exact fun _ h => h) rfl (by exact Stab.load rfl (tysOk.get rfl) rfl (by repeat (first | exact Has.here | apply Has.there)) rfl) rfl rfl ?_); (refine TrA.take 4 (by kernel_rfl) rfl (by kernel_rfl) (by exact fun _ _ _ h => h) (by exact fun _ h => h) rfl (by exact Stab.load rfl (tysOk.get rfl) rfl (by repeat (first | exact Has.here | apply Has.there)) rfl) rfl rfl ?_); (refine TrA.take 6 (by kernel_rfl) rfl (by kernel_rfl) (by exact fun _ _ _ h => h) (by exact fun _ h => h) rfl (by exact Stab.indexAddr rfl rfl (tysOk.get rfl) rfl (tysOk.get rfl) rfl (by omega) (by omega) (by first | rfl | assumption)) rfl rfl ?_); (refine TrA.take 7 (by kernel_rfl) rfl (by kernel_rfl) (by exact fun _ _ _ h => h) (by exact fun _ h => h) rfl (by exact Stab.loadM rfl (tysOk.get rfl) rfl (by assumption)) rfl rfl ?_); (refine TrA.take 8 (by kernel_rfl) rfl (by kernel_rfl) (by exact fun _ _ _ h => h) (by exact fun _ h => h) rfl (by exact Stab.indexAddr rfl rfl (tysOk.get rfl) rfl (tysOk.get rfl) rfl (by omega) (by omega) (by first | rfl | assumption)) rfl rfl ?_); (refine TrA.take 9 (by kernel_rfl) rfl (by kernel_rfl) (by exact fun _ _ _ h => h) (by exact fun _ h => h) rfl (by exact Stab.fieldD rfl (tysOk.get rfl) rfl rfl (tysOk.get rfl) rfl) rfl rfl ?_); (refine TrA.effD 10 rfl (by kernel_rfl) (by kernel_rfl) (by exact .inl rfl) ?_); (((refine Knd.store ?_); ((refine Exec.storeN rfl rfl (tysOk.get rfl) rfl (by first | rfl | assumption) (by repeat (first | exact Upd.here | apply Upd.there)) (by omega) ?_)))); (refine ⟨_, fun _ h => h, ?_⟩); (refine TrA.done (by kernel_rfl) ?_))
    rw [Int.toNat_natCast i, flatMap_set spV_len (by omega) hyy (y := { y with amount := a }) rfl]
    have hy2 : (ys.set i { y with amount := a })[i]? = some { y with amount := a } := List.getElem?_set_self (List.getElem?_eq_some_iff.1 hyy).1
    (repeat ((with_reducible refine Tr.next ?_)))
    (((apply Tr.draw); (kernel_rfl)); (refine TrA.take 0 (by kernel_rfl) rfl (by kernel_rfl) (by exact fun _ _ _ h => h) (by exact fun _ h => h) rfl (by exact Stab.fieldZ rfl (tysOk.get rfl) rfl rfl (tysOk.get rfl) rfl) rfl rfl ?_); (refine TrA.take 2 (by kernel_rfl) rfl (by kernel_rfl) (by exact fun _ _ _ h => h) (by exact fun _ h => h) rfl (by first | exact Stab.move rfl) rfl rfl ?_); (refine TrA.take 3 (by kernel_rfl) rfl (by kernel_rfl) (by exact fun _ _ _ h => h) (by exact fun _ h => h) rfl (by exact Stab.fieldZ rfl (tysOk.get rfl) rfl rfl (tysOk.get rfl) rfl) rfl rfl ?_); (refine TrA.take 5 (by kernel_rfl) rfl (by kernel_rfl) (by exact fun _ _ _ h => h) (by exact fun _ h => h) rfl (by first | exact Stab.move rfl) rfl rfl ?_); (refine TrA.take 1 (by kernel_rfl) rfl (by kernel_rfl) (by exact fun _ _ _ h => h) (by exact fun _ h => h) rfl (by exact Stab.load rfl (tysOk.get rfl) rfl (by repeat (first | exact Has.here | apply Has.there)) rfl) rfl rfl ?_); (refine TrA.take 4 (by kernel_rfl) rfl (by kernel_rfl) (by exact fun _ _ _ h => h) (by exact fun _ h => h) rfl (by exact Stab.load rfl (tysOk.get rfl) rfl (by repeat (first | exact Has.here | apply Has.there)) rfl) rfl rfl ?_); (refine TrA.take 6 (by kernel_rfl) rfl (by kernel_rfl) (by exact fun _ _ _ h => h) (by exact fun _ h => h) rfl (by exact Stab.indexAddr rfl rfl (tysOk.get rfl) rfl (tysOk.get rfl) rfl (by omega) (by omega) (by first | rfl | assumption)) rfl rfl ?_); (refine TrA.take 7 (by kernel_rfl) rfl (by kernel_rfl) (by exact fun _ _ _ h => h) (by exact fun _ h => h) rfl (by exact Stab.loadM rfl (tysOk.get rfl) rfl (by assumption)) rfl rfl ?_); (refine TrA.take 8 (by kernel_rfl) rfl (by kernel_rfl) (by exact fun _ _ _ h => h) (by exact fun _ h => h) rfl (by exact Stab.indexAddr rfl rfl (tysOk.get rfl) rfl (tysOk.get rfl) rfl (by omega) (by omega) (by first | rfl | assumption)) rfl rfl ?_); (refine TrA.take 9 (by kernel_rfl) rfl (by kernel_rfl) (by exact fun _ _ _ h => h) (by exact fun _ h => h) rfl (by exact Stab.fieldD rfl (tysOk.get rfl) rfl rfl (tysOk.get rfl) rfl) rfl rfl ?_); (refine TrA.effD 10 rfl (by kernel_rfl) (by kernel_rfl) (by exact .inl rfl) ?_); (((refine Knd.store ?_); ((refine Exec.storeN rfl rfl (tysOk.get rfl) rfl (by first | rfl | assumption) (by repeat (first | exact Upd.here | apply Upd.there)) (by omega) ?_)))); (refine ⟨_, fun _ h => h, ?_⟩); (refine TrA.done (by kernel_rfl) ?_))
    rw [Int.toNat_natCast i, flatMap_set spV_len (by omega) hy2 (y := setSup y a d) rfl, set_twice]
    (repeat (first | ((with_reducible refine Tr.step rfl ?_); (first | ((with_reducible refine Knd.move ?_); (refine Exec.stab rfl (Stab.move rfl) rfl ?_)) | ((with_reducible refine Knd.binOp ?_); (refine Exec.stab rfl (Stab.addi rfl rfl (by omega)) rfl ?_)))) | (with_reducible first | apply Tr.next | apply Tr.region | apply Tr.nil | apply Tr.in_normal)))
    refine Tr.again (i + 1, ys.set i (setSup y a d)) ⟨by simp only; omega, ?_⟩ (by simp only; omega) (holds_sub (by repeat (first | exact SubFr.nil | refine SubFr.cons rfl ?_)) (by repeat (first | exact DropL.refl | apply DropL.skip)))
    have := hup.step hy
    rw [resS, had, hdd] at this
    exact this
  have ei : i = k.sups.length := by omega
  subst ei
  obtain rfl := hup.fin ⟨0, 0, 0, 0, 0, 0⟩
  generalize hss : ((List.range k.sups.length).map fun i => resS s i (k.sups.getD i ⟨0, 0, 0, 0, 0, 0⟩)) = ss
  have hssl : ss.length = k.sups.length := by rw [← hss]; simp
  (repeat (first | ((with_reducible refine Tr.step rfl ?_); (first | ((with_reducible refine Knd.load ?_); (refine Exec.stab rfl (Stab.load rfl (tysOk.get rfl) rfl (by repeat (first | exact Has.here | apply Has.there)) rfl) rfl ?_)) | ((with_reducible refine Knd.fieldAddr ?_); (refine Exec.stab rfl (Stab.fieldZ rfl (tysOk.get rfl) rfl rfl (tysOk.get rfl) rfl) rfl ?_)) | ((with_reducible refine Knd.binOp ?_); (refine Exec.stab rfl (Stab.int rfl rfl rfl) rfl ?_)))) | (with_reducible first | apply Tr.next | apply Tr.seq | apply Tr.region | apply Tr.nil | apply Tr.exit | apply Tr.then_exit) | ((with_reducible refine Tr.in_exit ?_ ?_); (exact rfl)) | (refine Tr.cond_f rfl (by first | (with_reducible assumption) | omega) ?_)))
  ((refine Tr.step rfl ?_))
  refine Exec.call (A := []) rfl (cloneR_fn M Ar cr k.reqs h2 (by omega)) (List.Perm.refl _) rfl ?_
  rintro _ _ _ - ⟨⟨A2, c2, rfl, hc2, rfl⟩, rfl⟩
  simp only [List.cons_append, List.nil_append]
  (repeat (first | ((with_reducible refine Tr.step rfl ?_); (first | ((with_reducible refine Knd.move ?_); (refine Exec.stab rfl (Stab.move rfl) rfl ?_)) | ((with_reducible refine Knd.load ?_); (refine Exec.stab rfl (Stab.load rfl (tysOk.get rfl) rfl (by repeat (first | exact Has.here | apply Has.there)) rfl) rfl ?_)) | ((with_reducible refine Knd.fieldAddr ?_); (refine Exec.stab rfl (Stab.fieldZ rfl (tysOk.get rfl) rfl rfl (tysOk.get rfl) rfl) rfl ?_)) | ((with_reducible refine Knd.len ?_); (refine Exec.stab rfl (Stab.len rfl (tysOk.get rfl) rfl) rfl ?_)) | ((with_reducible refine Knd.store ?_); (refine Exec.store rfl rfl (tysOk.get rfl) rfl (by first | rfl | assumption) (by repeat (first | exact Upd.here | apply Upd.there)) (by repeat (first | exact SetL.z | apply SetL.s)) ?_)))) | (with_reducible first | apply Tr.next | apply Tr.seq | apply Tr.region | apply Tr.nil | apply Tr.block)))
  refine Tr.loop (α := Nat × List Rq) (fun y => ⟨74, [(45, .int .i64 (y.1 : Int)), (44, .int .i64 (k.reqs.length : Int)), (43, .slice A2 k.reqs.length c2), (4, .pointer (some ⟨b4, 0, none⟩)), (3, .pointer (some ⟨b3, 0, none⟩)), (2, .pointer (some ⟨b2, 0, none⟩))], [], M,
      ownS 54 6 A2 k.reqs.length c2 (y.2.flatMap rqV) :: ownS 58 6 A1 k.sups.length c1 (ss.flatMap spV) :: box b4 27 [.int .i64 0, .slice none 0 0, .slice none 0 0, .slice none 0 0, .slice none 0 0] :: box b3 64 [.slice Bf (fxB k).fits.length kf, .slice Ba s.am.length ka, .slice Bd s.dy.length kd, .slice Bn s.nd.length kn, .slice Bu (fxB k).due.length ku, .slice Bb s.br.length kb] :: box b2 27 [.int .i64 k.known, .slice A1 k.sups.length c1, .slice A2 k.reqs.length c2, .slice Af k.fits.length cf, .slice Ad k.reads cd] :: F⟩)
    (fun y => y.1 ≤ k.reqs.length ∧ upTo (resR s) k.reqs y.2 y.1) (fun y => k.reqs.length - y.1) (0, k.reqs) ⟨Nat.zero_le _, upTo.zero _ _⟩ (holds_sub (by repeat (first | exact SubFr.nil | refine SubFr.cons rfl ?_)) (by repeat (first | exact DropL.refl | apply DropL.skip))) (fun y hy => ?_)
  obtain ⟨i, ys⟩ := y
  obtain ⟨hi, hup⟩ := hy
  dsimp only at hi hup
  dsimp only
  by_cases hlt2 : i < k.reqs.length
  · obtain ⟨y, hy⟩ := get_of_lt hlt2
    have hyy := hup.at hy
    obtain ⟨a, ha⟩ := get_of_lt (xs := s.nd) (i := i) (by omega)
    obtain ⟨d, hd⟩ := get_of_lt (xs := s.br) (i := i) (by omega)
    have had := getD_of (d := (0 : Int)) ha
    have hdd := getD_of (d := (0 : Int)) hd
    obtain ⟨hAa, hata⟩ := Ints.at q4 ha
    obtain ⟨hAd, hatd⟩ := Ints.at q6 hd
    have hstep := hup.step hy
    refine Tr.own_some A2 (e := 54) (sz := 6) (m := k.reqs.length) (c := c2) (xs := ys.flatMap rqV) (by repeat (first | exact Has.here | apply Has.there)) (by omega) (fun hA1 => ?_)
    (repeat (first | ((with_reducible refine Tr.step rfl ?_); (first | ((with_reducible refine Knd.move ?_); (refine Exec.stab rfl (Stab.move rfl) rfl ?_)) | ((with_reducible refine Knd.assign ?_); (refine Exec.stab rfl (Stab.assign rfl) rfl ?_)) | ((with_reducible refine Knd.binOp ?_); (refine Exec.stab rfl (Stab.int rfl rfl rfl) rfl ?_)))) | (with_reducible first | apply Tr.next | apply Tr.seq | apply Tr.region | apply Tr.nil | apply Tr.skip | apply Tr.block) | (refine Tr.cond_t rfl (by first | (with_reducible assumption) | omega) ?_)))
    (((apply Tr.draw); (kernel_rfl)); (refine TrA.take 0 (by kernel_rfl) rfl (by kernel_rfl) (by exact fun _ _ _ h => h) (by exact fun _ h => h) rfl (by exact Stab.fieldZ rfl (tysOk.get rfl) rfl rfl (tysOk.get rfl) rfl) rfl rfl ?_); (refine TrA.take 2 (by kernel_rfl) rfl (by kernel_rfl) (by exact fun _ _ _ h => h) (by exact fun _ h => h) rfl (by first | exact Stab.move rfl) rfl rfl ?_); (refine TrA.take 3 (by kernel_rfl) rfl (by kernel_rfl) (by exact fun _ _ _ h => h) (by exact fun _ h => h) rfl (by exact Stab.fieldZ rfl (tysOk.get rfl) rfl rfl (tysOk.get rfl) rfl) rfl rfl ?_); (refine TrA.take 5 (by kernel_rfl) rfl (by kernel_rfl) (by exact fun _ _ _ h => h) (by exact fun _ h => h) rfl (by first | exact Stab.move rfl) rfl rfl ?_); (refine TrA.take 1 (by kernel_rfl) rfl (by kernel_rfl) (by exact fun _ _ _ h => h) (by exact fun _ h => h) rfl (by exact Stab.load rfl (tysOk.get rfl) rfl (by repeat (first | exact Has.here | apply Has.there)) rfl) rfl rfl ?_); (refine TrA.take 4 (by kernel_rfl) rfl (by kernel_rfl) (by exact fun _ _ _ h => h) (by exact fun _ h => h) rfl (by exact Stab.load rfl (tysOk.get rfl) rfl (by repeat (first | exact Has.here | apply Has.there)) rfl) rfl rfl ?_); (refine TrA.take 6 (by kernel_rfl) rfl (by kernel_rfl) (by exact fun _ _ _ h => h) (by exact fun _ h => h) rfl (by exact Stab.indexAddr rfl rfl (tysOk.get rfl) rfl (tysOk.get rfl) rfl (by omega) (by omega) (by first | rfl | assumption)) rfl rfl ?_); (refine TrA.take 7 (by kernel_rfl) rfl (by kernel_rfl) (by exact fun _ _ _ h => h) (by exact fun _ h => h) rfl (by exact Stab.loadM rfl (tysOk.get rfl) rfl (by assumption)) rfl rfl ?_); (refine TrA.take 8 (by kernel_rfl) rfl (by kernel_rfl) (by exact fun _ _ _ h => h) (by exact fun _ h => h) rfl (by exact Stab.indexAddr rfl rfl (tysOk.get rfl) rfl (tysOk.get rfl) rfl (by omega) (by omega) (by first | rfl | assumption)) rfl rfl ?_); (refine TrA.take 9 (by kernel_rfl) rfl (by kernel_rfl) (by exact fun _ _ _ h => h) (by exact fun _ h => h) rfl (by exact Stab.fieldD rfl (tysOk.get rfl) rfl rfl (tysOk.get rfl) rfl) rfl rfl ?_); (refine TrA.effD 10 rfl (by kernel_rfl) (by kernel_rfl) (by exact .inl rfl) ?_); (((refine Knd.store ?_); ((refine Exec.storeN rfl rfl (tysOk.get rfl) rfl (by first | rfl | assumption) (by repeat (first | exact Upd.here | apply Upd.there)) (by omega) ?_)))); (refine ⟨_, fun _ h => h, ?_⟩); (refine TrA.done (by kernel_rfl) ?_))
    rw [Int.toNat_natCast i, flatMap_set rqV_len (by omega) hyy (y := { y with amount := a }) rfl]
    have hy2 : (ys.set i { y with amount := a })[i]? = some { y with amount := a } := List.getElem?_set_self (List.getElem?_eq_some_iff.1 hyy).1
    by_cases hb : 0 ≤ d
    · (repeat (first | ((with_reducible refine Tr.step rfl ?_); (first | ((with_reducible refine Knd.move ?_); (refine Exec.stab rfl (Stab.move rfl) rfl ?_)) | ((with_reducible refine Knd.load ?_); (first | (refine Exec.stab rfl (Stab.load rfl (tysOk.get rfl) rfl (by repeat (first | exact Has.here | apply Has.there)) rfl) rfl ?_) | (refine Exec.stab rfl (Stab.loadM rfl (tysOk.get rfl) rfl (by assumption)) rfl ?_))) | ((with_reducible refine Knd.fieldAddr ?_); (first | (refine Exec.stab rfl (Stab.fieldZ rfl (tysOk.get rfl) rfl rfl (tysOk.get rfl) rfl) rfl ?_) | (refine Exec.stab rfl (Stab.fieldD rfl (tysOk.get rfl) rfl rfl (tysOk.get rfl) rfl) rfl ?_))) | ((with_reducible refine Knd.binOp ?_); (first | (refine Exec.stab rfl (Stab.addi rfl rfl (by omega)) rfl ?_) | (refine Exec.stab rfl (Stab.int rfl rfl rfl) rfl ?_))) | ((with_reducible refine Knd.store ?_); (refine Exec.storeN rfl rfl (tysOk.get rfl) rfl (by first | rfl | assumption) (by repeat (first | exact Upd.here | apply Upd.there)) (by omega) ?_)) | ((with_reducible refine Knd.indexAddr ?_); (refine Exec.stab rfl (Stab.indexAddr rfl rfl (tysOk.get rfl) rfl (tysOk.get rfl) rfl (by omega) (by omega) (by first | rfl | assumption)) rfl ?_)))) | (with_reducible first | apply Tr.next | apply Tr.seq | apply Tr.region | apply Tr.nil | apply Tr.in_normal) | (refine Tr.cond_t rfl (by (with_reducible assumption)) ?_)))
      rw [Int.toNat_natCast i, flatMap_set rqV_len (by omega) hy2 (y := setReq y 0) rfl, set_twice]
      rw [resR, had, hdd, if_pos hb] at hstep
      exact Tr.again (i + 1, ys.set i (setReq y 0)) ⟨by simp only; omega, hstep⟩ (by simp only; omega) (holds_sub (by repeat (first | exact SubFr.nil | refine SubFr.cons rfl ?_)) (by repeat (first | exact DropL.refl | apply DropL.skip)))
    · (repeat (first | ((with_reducible refine Tr.step rfl ?_); (first | ((with_reducible refine Knd.move ?_); (refine Exec.stab rfl (Stab.move rfl) rfl ?_)) | ((with_reducible refine Knd.load ?_); (first | (refine Exec.stab rfl (Stab.load rfl (tysOk.get rfl) rfl (by repeat (first | exact Has.here | apply Has.there)) rfl) rfl ?_) | (refine Exec.stab rfl (Stab.loadM rfl (tysOk.get rfl) rfl (by assumption)) rfl ?_))) | ((with_reducible refine Knd.fieldAddr ?_); (refine Exec.stab rfl (Stab.fieldZ rfl (tysOk.get rfl) rfl rfl (tysOk.get rfl) rfl) rfl ?_)) | ((with_reducible refine Knd.binOp ?_); (first | (refine Exec.stab rfl (Stab.addi rfl rfl (by omega)) rfl ?_) | (refine Exec.stab rfl (Stab.int rfl rfl rfl) rfl ?_))) | ((with_reducible refine Knd.indexAddr ?_); (refine Exec.stab rfl (Stab.indexAddr rfl rfl (tysOk.get rfl) rfl (tysOk.get rfl) rfl (by omega) (by omega) (by first | rfl | assumption)) rfl ?_)))) | (with_reducible first | apply Tr.next | apply Tr.seq | apply Tr.region | apply Tr.nil | apply Tr.skip | apply Tr.in_normal) | (refine Tr.cond_f rfl (by (with_reducible assumption)) ?_)))
      rw [resR, had, hdd, if_neg hb] at hstep
      exact Tr.again (i + 1, ys.set i (setReq y a)) ⟨by simp only; omega, hstep⟩ (by simp only; omega) (holds_sub (by repeat (first | exact SubFr.nil | refine SubFr.cons rfl ?_)) (by repeat (first | exact DropL.refl | apply DropL.skip)))
  have ei : i = k.reqs.length := by omega
  subst ei
  obtain rfl := hup.fin ⟨0, 0, 0, 0, 0, 0⟩
  generalize hrs : ((List.range k.reqs.length).map fun i => resR s i (k.reqs.getD i ⟨0, 0, 0, 0, 0, 0⟩)) = rs
  have hrsl : rs.length = k.reqs.length := by rw [← hrs]; simp
  refine Tr.publish (r := ownS 58 6 A1 _ _ _) (by repeat (first | exact Del.here | apply Del.there)) (fun M1 hm1 ok1 => ?_)
  have i1 := SlOf.ofOwn ok1 hssl.symm hc1 (Elems.flat (R := RSp) spV_len (fun _ => rfl) ss)
  refine Tr.publish (r := ownS 54 6 A2 _ _ _) (by repeat (first | exact Del.here | apply Del.there)) (fun M2 hm2 ok2 => ?_)
  have i2 := SlOf.ofOwn ok2 hrsl.symm hc2 (Elems.flat (R := RRq) rqV_len (fun _ => rfl) rs)
  have hm12 := hm1.trans hm2
  (repeat (first | ((with_reducible refine Tr.step rfl ?_); (first | ((with_reducible refine Knd.load ?_); (refine Exec.stab rfl (Stab.loadW rfl (tysOk.get rfl) rfl (by repeat (first | exact Has.here | apply Has.there)) rfl) rfl ?_)) | ((with_reducible refine Knd.binOp ?_); (refine Exec.stab rfl (Stab.int rfl rfl rfl) rfl ?_)))) | (with_reducible first | apply Tr.next | apply Tr.seq | apply Tr.region | apply Tr.nil | apply Tr.exit | apply Tr.then_exit) | ((with_reducible refine Tr.in_exit ?_ ?_); (exact rfl)) | (refine Tr.cond_f rfl (by first | (with_reducible assumption) | omega) ?_)))
  ((refine Tr.step rfl ?_))
  refine Exec.call0 rfl (serving_fn M2 _ (fxB k) s (hS0.mono hm12) hf) rfl ?_
  rintro _ M3 hm3 ⟨A3, c3, rfl, ht⟩
  have hlast := hm12.trans hm3
  (repeat (first | ((with_reducible refine Tr.step rfl ?_); (first | ((with_reducible refine Knd.load ?_); (refine Exec.stab rfl (Stab.loadW rfl (tysOk.get rfl) rfl (by repeat (first | exact Has.here | apply Has.there)) rfl) rfl ?_)) | ((with_reducible refine Knd.fieldAddr ?_); (refine Exec.stab rfl (Stab.fieldZ rfl (tysOk.get rfl) rfl rfl (tysOk.get rfl) rfl) rfl ?_)) | ((with_reducible refine Knd.store ?_); (first | (refine Exec.store rfl rfl (tysOk.get rfl) rfl (by first | rfl | assumption) (by repeat (first | exact Upd.here | apply Upd.there)) (by repeat (first | exact SetL.z | apply SetL.s)) ?_) | (refine Exec.storeW rfl rfl (tysOk.get rfl) (by repeat (first | exact Upd.here | apply Upd.there)) rfl rfl (by repeat (first | exact AllOne.nil | refine AllOne.cons (by first | rfl | assumption) ?_)) ?_))))) | (with_reducible first | apply Tr.next | apply Tr.seq | apply Tr.region | apply Tr.nil | apply Tr.ret)))
  (refine Tr.done (by first | exact .inl rfl | exact .inr rfl) rfl (by repeat (first | exact RVs.nil | (apply RVs.cons; (exact RV.cellW (by rfl) (tysOk.get (by rfl)) (by rfl) (by repeat (first | exact Has.here | apply Has.there)) (by first | rfl | assumption))))) (by first | exact Mem.le.refl _ | assumption) (by exact ⟨[_, _, _], rfl⟩) ⟨rfl, ?_⟩)
  refine ⟨A1, c1, A2, c2, A3, c3, Ad, cd, ?_, ?_, ?_, ?_⟩
  · show _ = Value.agg #[_, .slice _ (List.length _) _, .slice _ (List.length _) _, .slice _ (tabL k.fits (k.reqs.map (·.due)) s.dy).length _, _]
    rw [show (resF k s).sups.length = k.sups.length by simp [resF], show (resF k s).reqs.length = k.reqs.length by simp [resF]]
    rfl
  · show SlOf 6 RSp M3 (.slice A1 (List.length ((List.range k.sups.length).map fun i => resS s i (k.sups.getD i ⟨0, 0, 0, 0, 0, 0⟩))) c1) ((List.range k.sups.length).map fun i => resS s i (k.sups.getD i ⟨0, 0, 0, 0, 0, 0⟩))
    rw [hss]
    exact i1.mono RSp.mono (hm2.trans hm3)
  · show SlOf 6 RRq M3 (.slice A2 (List.length ((List.range k.reqs.length).map fun i => resR s i (k.reqs.getD i ⟨0, 0, 0, 0, 0, 0⟩))) c2) ((List.range k.reqs.length).map fun i => resR s i (k.reqs.getD i ⟨0, 0, 0, 0, 0, 0⟩))
    rw [hrs]
    exact i2.mono RRq.mono hm3
  · exact ht
end Go.Proofs.Ytgnipfjjkliibaa

/-
  Honour: attempt, Do.
  Conditions: none.
-/
namespace Go.Proofs.Ytgnipfjjkliibaa
open Go Bf
attribute [local irreducible] Tr Exec Stab HasTy Go.Addr.add IntKind.wrap
def refDone : List PanicEntry := [{ v := .iface 31 (.int .i64 330), recovered := true }]
set_option maxHeartbeats 1000000 in
theorem att_panic (M : Mem) (b2 : Nat) (e0 : Value) :
    CD Try.prog 46 [.pointer (some ⟨b2, 0, none⟩)] (.panicking refCh) M [box b2 31 [e0]]
      (fun u' M' A' => u' = .panicking refDone ∧ M = M' ∧ A' = [box b2 31 [.int .i64 330]]) := by
  refine CD.intro1 Try.func46 rfl rfl Try.ntmps46 rfl rfl (v := .iface 31 (.int .i64 330)) (.inl ⟨[], rfl, rfl⟩) fun E F => ?_
  (repeat (first | ((with_reducible refine Tr.step rfl ?_); (first | ((with_reducible refine Knd.move ?_); (refine Exec.stab rfl (Stab.move rfl) rfl ?_)) | ((with_reducible refine Knd.assign ?_); (refine Exec.stab rfl (Stab.assign rfl) rfl ?_)) | ((with_reducible refine Knd.binOp ?_); (refine Exec.stab rfl (Stab.ifaceeq rfl (tysOk.get rfl) rfl) rfl ?_)) | ((with_reducible refine Knd.store ?_); (refine Exec.store rfl rfl (tysOk.get rfl) rfl (by first | rfl | assumption) (by repeat (first | exact Upd.here | apply Upd.there)) (by repeat (first | exact SetL.z | apply SetL.s)) ?_)) | ((with_reducible refine Knd.typeAssert ?_); (refine Exec.stab rfl (Stab.assertY rfl (tysOk.get rfl) rfl) rfl ?_)) | ((with_reducible refine Knd.extract ?_); (refine Exec.stab rfl (Stab.extract rfl rfl) rfl ?_)))) | (with_reducible first | apply Tr.next | apply Tr.seq | apply Tr.region | apply Tr.nil | apply Tr.block | apply Tr.in_normal) | (refine Tr.cond_bt rfl (by (with_reducible rfl)) ?_) | (refine Tr.cond_bf rfl (by (with_reducible rfl)) ?_)))
  refine Tr.doneC (by first | exact .inl rfl | exact .inr rfl) rfl (by repeat (exact RVs.nil)) (Mem.le.refl _) DropL.refl ⟨rfl, rfl, rfl⟩
set_option maxHeartbeats 1000000 in
theorem att_idle (M : Mem) (b2 : Nat) (A : List Res) :
    CD Try.prog 46 [.pointer (some ⟨b2, 0, none⟩)] .returning M A
      (fun u' M' A' => u' = .returning ∧ M = M' ∧ A' = A) := by
  refine CD.intro1 Try.func46 rfl rfl Try.ntmps46 rfl rfl (v := .nilIface) (.inr ⟨rfl, rfl, rfl⟩) fun E F => ?_
  (repeat (first | ((with_reducible refine Tr.step rfl ?_); (first | ((with_reducible refine Knd.assign ?_); (refine Exec.stab rfl (Stab.assign rfl) rfl ?_)) | ((with_reducible refine Knd.binOp ?_); (refine Exec.stab rfl (Stab.nileq rfl (tysOk.get rfl) rfl) rfl ?_)))) | (with_reducible first | apply Tr.next | apply Tr.seq | apply Tr.region | apply Tr.nil | apply Tr.block | apply Tr.in_normal) | (refine Tr.cond_bt rfl (by (with_reducible rfl)) ?_)))
  refine Tr.doneC (by first | exact .inl rfl | exact .inr rfl) rfl (by repeat (exact RVs.nil)) (Mem.le.refl _) DropL.refl ⟨rfl, rfl, rfl⟩
set_option maxHeartbeats 2000000 in
theorem attempt_fn (M : Mem) (g : FuncId) (cap : List Value) (A : List Res) (R : Value → Mem → List Res → Prop) (RP : List PanicEntry → Mem → List Res → Prop) (hg : FnP Try.prog g cap M A R RP) (hch : ∀ ch M' A', RP ch M' A' → ch = refCh) :
    Bf.Fn Try.prog 24 [.func (.func g) #[] cap.toArray] M A (fun r M' A' => (r = .int .i64 0 ∧ ∃ v, R v M' A') ∨ (r = .int .i64 330 ∧ RP refCh M' A')) := by
  refine Fn.introD Try.func24 rfl rfl Try.ntmps24 rfl fun E F => ?_
  (repeat (first | ((with_reducible refine Tr.step rfl ?_); (first | ((with_reducible refine Knd.makeFunc ?_); (refine Exec.stab rfl (Stab.makeFunc rfl rfl) rfl ?_)) | ((with_reducible refine Knd.alloc ?_); (refine Exec.alloc1 (tysOk.get rfl) rfl rfl rfl (fun b => ?_))))) | (with_reducible first | apply Tr.next | apply Tr.seq | apply Tr.region | apply Tr.nil)))
  refine Tr.step rfl ?_
  refine Exec.defer (first := []) (vs := []) rfl rfl ?_
  (repeat (first | ((with_reducible refine Tr.step rfl ?_); (with_reducible refine Knd.move ?_); (refine Exec.stab rfl (Stab.move rfl) rfl ?_)) | (with_reducible first | apply Tr.next | apply Tr.seq | apply Tr.region | apply Tr.nil)))
  ((refine Tr.step rfl ?_))
  refine Exec.callPv (first := []) (cap := cap) (vs := []) (A := A) (F := box b 31 [.int .i64 0] :: F) rfl rfl (by simpa using hg) List.perm_middle rfl (fun v M' A' hm hR => ?_) (fun ch M' A' hm hR => ?_)
  rotate_left
  · obtain rfl := hch _ _ _ hR
    (repeat ((with_reducible refine Tr.then_panic ?_)))
    refine Tr.panicD (vs0 := []) (cap := [.pointer (some ⟨b, 0, none⟩)]) (A := [box b 31 [.int .i64 0]]) (F1 := A' ++ F) (att_panic M' b _) (show (box b 31 [.int .i64 0] :: (A' ++ F)).Perm (A' ++ box b 31 [.int .i64 0] :: F) from List.perm_middle.symm) rfl ?_
    rintro u' M'' A'' hm' ⟨rfl, rfl, rfl⟩
    exact ⟨rfl, _, (by repeat (first | exact RVs.nil | (apply RVs.cons; (exact RV.cell (by rfl) (tysOk.get (by rfl)) (by rfl) (by repeat (first | exact Has.here | apply Has.there)))))), hm, [box b 31 [.int .i64 330]], A', List.Perm.refl _, .inr ⟨rfl, hR⟩⟩
  refine Tr.reorder List.perm_middle.symm ?_
  (repeat (first | ((with_reducible refine Tr.step rfl ?_); (with_reducible refine Knd.store ?_); (refine Exec.store rfl rfl (tysOk.get rfl) rfl (by first | rfl | assumption) (by repeat (first | exact Upd.here | apply Upd.there)) (by repeat (first | exact SetL.z | apply SetL.s)) ?_)) | (with_reducible first | apply Tr.next | apply Tr.seq | apply Tr.region | apply Tr.nil | apply Tr.ret)))
  refine Tr.doneD (vs0 := []) (cap := [.pointer (some ⟨b, 0, none⟩)]) (A := []) (by first | exact .inl rfl | exact .inr rfl) (att_idle M' b []) (List.Perm.refl _) rfl ?_
  rintro u' M'' A'' hm' ⟨rfl, rfl, rfl⟩
  exact ⟨rfl, _, (by repeat (first | exact RVs.nil | (apply RVs.cons; (exact RV.cell (by rfl) (tysOk.get (by rfl)) (by rfl) (by repeat (first | exact Has.here | apply Has.there)))))), hm, [box b 31 [.int .i64 0]], A', List.Perm.refl _, .inl ⟨rfl, v, hR⟩⟩
theorem RBk.open5 {M : Mem} {v : Value} {k : Bk} (h : RBk M v k) : ∃ v1 v2 v3 v4 v5, v = .agg #[v1, v2, v3, v4, v5] ∧ v1.oneCell' = true ∧ v2.oneCell' = true ∧ v3.oneCell' = true ∧ v4.oneCell' = true ∧ v5.oneCell' = true := by
  obtain ⟨As, cs, Ar, cr, Af, cf, Ad, cd, rfl, h1, h2, h3⟩ := h
  exact ⟨_, _, _, _, _, rfl, rfl, rfl, rfl, rfl, rfl⟩
theorem RBk.one5 {M : Mem} {v1 v2 v3 v4 v5 : Value} {k : Bk} (h : RBk M (.agg #[v1, v2, v3, v4, v5]) k) : v1.oneCell' = true ∧ v2.oneCell' = true ∧ v3.oneCell' = true ∧ v4.oneCell' = true ∧ v5.oneCell' = true := by
  obtain ⟨w1, w2, w3, w4, w5, e, o⟩ := h.open5
  injection e with e
  simp only [Array.mk.injEq, List.cons.injEq, and_true] at e
  obtain ⟨rfl, rfl, rfl, rfl, rfl⟩ := e
  exact o
set_option maxHeartbeats 4000000 in
theorem do1_fn (M : Mem) (k : Bk) (v1 v2 v3 v4 v5 : Value) (h : RBk M (.agg #[v1, v2, v3, v4, v5]) k) (A : Option Addr) (c : Nat) (l : List Hp) (hl : SlOf 5 RHp M (.slice A l.length c) l) (b2 b3 b4 : Nat) (z1 z2 z3 z4 z5 : Value) :
    FnP Try.prog 25 [.pointer (some ⟨b2, 0, none⟩), .pointer (some ⟨b3, 0, none⟩), .pointer (some ⟨b4, 0, none⟩)] M [box b2 27 [v1, v2, v3, v4, v5], box b3 28 [.slice A l.length c], box b4 27 [z1, z2, z3, z4, z5]]
      (fun _ M' A' => ∃ s u1 u2 u3 u4 u5, runF k l = some s ∧ RBk M' (.agg #[u1, u2, u3, u4, u5]) (resF k s) ∧ A' = [box b4 27 [u1, u2, u3, u4, u5]])
      (fun ch _ A' => ch = refCh ∧ runF k l = none ∧ A' = [box b4 27 [z1, z2, z3, z4, z5]]) := by
  refine FnP.intro Try.func25 rfl rfl Try.ntmps25 rfl fun E F => ?_
  (skip)
  (((apply Tr.draw); (kernel_rfl)); (refine TrA.take 0 (by kernel_rfl) rfl (by kernel_rfl) (by exact fun _ _ _ h => h) (by exact fun _ h => h) rfl (by exact Stab.loadW rfl (tysOk.get rfl) rfl (by repeat (first | exact Has.here | apply Has.there)) rfl) rfl rfl ?_); (refine TrA.take 1 (by kernel_rfl) rfl (by kernel_rfl) (by exact fun _ _ _ h => h) (by exact fun _ h => h) rfl (by exact Stab.loadW rfl (tysOk.get rfl) rfl (by repeat (first | exact Has.here | apply Has.there)) rfl) rfl rfl ?_); (refine TrA.take 2 (by kernel_rfl) rfl (by kernel_rfl) (by exact fun _ _ _ h => h) (by exact fun _ h => h) rfl (by exact Stab.load rfl (tysOk.get rfl) rfl (by repeat (first | exact Has.here | apply Has.there)) rfl) rfl rfl ?_); (refine TrA.eff 3 rfl (by kernel_rfl) (by exact .inl rfl) ?_))
  refine Exec.callP rfl (run_fn M _ k h A c l hl) (List.Perm.refl _) rfl (fun v M' A' hm hR => ?_) (fun ch M' A' hm hR => ?_)
  rotate_left
  · obtain ⟨rfl, rfl, hn⟩ := hR
    (skip)
    exact Tr.doneP (A' := [box b4 27 [z1, z2, z3, z4, z5]]) hm (DropL.skip (DropL.skip DropL.refl)) ⟨rfl, hn, rfl⟩
  obtain ⟨rfl, s, hs, hS⟩ := hR
  refine ⟨hm, (by exact fun _ h => h), ?_⟩
  obtain ⟨hfb, hfit, -⟩ := run_keep hs
  obtain ⟨e1, e2, e3, e4⟩ := run_len hs
  ((refine TrA.eff 4 rfl (by kernel_rfl) (by exact .inl rfl) ?_))
  refine Exec.call0 rfl (result_fn M' _ _ k s (h.mono hm) hS hfit e1 e2) rfl ?_
  rintro w M2 hm2 hB
  refine ⟨hm2, (by exact fun _ h => h), ?_⟩
  obtain ⟨u1, u2, u3, u4, u5, rfl, o1, o2, o3, o4, o5⟩ := hB.open5
  ((refine TrA.effD 5 rfl (by kernel_rfl) (by kernel_rfl) (by exact .inl rfl) ?_); (((refine Knd.store ?_); ((refine Exec.storeW rfl rfl (tysOk.get rfl) (by repeat (first | exact Upd.here | apply Upd.there)) rfl rfl (by repeat (first | exact AllOne.nil | refine AllOne.cons (by first | rfl | assumption) ?_)) ?_)))); (refine ⟨_, fun _ h => h, ?_⟩); (refine TrA.done (by kernel_rfl) ?_))
  (skip)
  refine Tr.ofPost ?_
  refine Tr.doneB (A' := [box b4 27 [u1, u2, u3, u4, u5]]) [_, _] (by first | exact .inl rfl | exact .inr rfl) rfl (by repeat (exact RVs.nil)) (hm.trans hm2) (List.Perm.refl _) ⟨s, u1, u2, u3, u4, u5, hs, hB, rfl⟩
/-- what Do answers -/
noncomputable def doF (k : Bk) (l : List Hp) : Bk × Int := match runF k l with
  | some s => (resF k s, 0)
  | none => (zB, 330)
theorem RBk.zero (M : Mem) : RBk M (.agg #[.int .i64 0, .slice none 0 0, .slice none 0 0, .slice none 0 0, .slice none 0 0]) zB :=
  ⟨none, 0, none, 0, none, 0, none, 0, rfl, SlOf.nil _ _ _, SlOf.nil _ _ _, SlOf.nil _ _ _⟩
theorem rev3 {α : Type} (a b c : α) (F : List α) : ([c, b, a] ++ F).Perm (a :: b :: c :: F) := (List.reverse_perm [a, b, c]).append_right F
set_option maxHeartbeats 4000000 in
theorem do_fn (M : Mem) (v : Value) (k : Bk) (h : RBk M v k) (A : Option Addr) (c : Nat) (l : List Hp) (hl : SlOf 5 RHp M (.slice A l.length c) l) :
    Fn0 Try.prog 11 [v, .slice A l.length c] M (fun r M' => ∃ w, r = .tuple #[w, .int .i64 (doF k l).2] ∧ RBk M' w (doF k l).1) := by
  obtain ⟨v1, v2, v3, v4, v5, rfl, o1, o2, o3, o4, o5⟩ := h.open5
  refine Fn.intro Try.func11 rfl rfl Try.ntmps11 rfl fun E F => ?_
  (repeat (first | ((with_reducible refine Tr.step rfl ?_); (first | ((with_reducible refine Knd.assign ?_); (refine Exec.stab rfl (Stab.assign rfl) rfl ?_)) | ((with_reducible refine Knd.makeFunc ?_); (refine Exec.stab rfl (Stab.makeFunc rfl rfl) rfl ?_)) | ((with_reducible refine Knd.box ?_); (first | (refine Exec.box rfl rfl (fun b => ?_)) | (refine Exec.box1 rfl (by first | rfl | assumption) rfl (fun b => ?_)))) | ((with_reducible refine Knd.alloc ?_); (refine Exec.alloc (tysOk.get rfl) rfl rfl (fun b => ?_))))) | (with_reducible first | apply Tr.next | apply Tr.seq | apply Tr.region | apply Tr.nil)))
  generalize b = b4
  rename_i b2 b3
  ((refine Tr.step rfl ?_))
  refine Exec.call (A := [box b2 27 [v1, v2, v3, v4, v5], box b3 28 [.slice A l.length c], box b4 27 [.int .i64 0, .slice none 0 0, .slice none 0 0, .slice none 0 0, .slice none 0 0]]) rfl (attempt_fn M 25 [.pointer (some ⟨b2, 0, none⟩), .pointer (some ⟨b3, 0, none⟩), .pointer (some ⟨b4, 0, none⟩)] _ _ _ (do1_fn M k v1 v2 v3 v4 v5 h A c l hl b2 b3 b4 _ _ _ _ _) (fun ch M' A' h => h.1)) (rev3 _ _ _ _) rfl ?_
  rintro r M' A' hm (⟨rfl, -, s, u1, u2, u3, u4, u5, hs, hB, rfl⟩ | ⟨rfl, -, hn, rfl⟩)
  · simp only [List.cons_append, List.nil_append]
    obtain ⟨p1, p2, p3, p4, p5⟩ := hB.one5
    (repeat (first | ((with_reducible refine Tr.step rfl ?_); (first | ((with_reducible refine Knd.move ?_); (refine Exec.stab rfl (Stab.move rfl) rfl ?_)) | ((with_reducible refine Knd.assign ?_); (refine Exec.stab rfl (Stab.assign rfl) rfl ?_)) | ((with_reducible refine Knd.load ?_); (refine Exec.stab rfl (Stab.loadW rfl (tysOk.get rfl) rfl (by repeat (first | exact Has.here | apply Has.there)) rfl) rfl ?_)) | ((with_reducible refine Knd.store ?_); (refine Exec.storeW rfl rfl (tysOk.get rfl) (by repeat (first | exact Upd.here | apply Upd.there)) rfl rfl (by repeat (first | exact AllOne.nil | refine AllOne.cons (by first | rfl | assumption) ?_)) ?_)))) | (with_reducible first | apply Tr.next | apply Tr.seq | apply Tr.region | apply Tr.nil | apply Tr.ret)))
    (refine Tr.done (by first | exact .inl rfl | exact .inr rfl) rfl (by repeat (first | exact RVs.nil | (apply RVs.cons; (first | exact RV.tmp rfl | exact RV.cellW (by rfl) (tysOk.get (by rfl)) (by rfl) (by repeat (first | exact Has.here | apply Has.there)) (by first | rfl | assumption))))) (by first | exact Mem.le.refl _ | assumption) (by exact ⟨[_], rfl⟩) ⟨rfl, ?_⟩)
    rw [doF, hs]
    exact ⟨_, rfl, hB⟩
  · simp only [List.cons_append, List.nil_append]
    (repeat (first | ((with_reducible refine Tr.step rfl ?_); (first | ((with_reducible refine Knd.move ?_); (refine Exec.stab rfl (Stab.move rfl) rfl ?_)) | ((with_reducible refine Knd.assign ?_); (refine Exec.stab rfl (Stab.assign rfl) rfl ?_)) | ((with_reducible refine Knd.load ?_); (refine Exec.stab rfl (Stab.loadW rfl (tysOk.get rfl) rfl (by repeat (first | exact Has.here | apply Has.there)) rfl) rfl ?_)) | ((with_reducible refine Knd.store ?_); (refine Exec.storeW rfl rfl (tysOk.get rfl) (by repeat (first | exact Upd.here | apply Upd.there)) rfl rfl (by repeat (first | exact AllOne.nil | refine AllOne.cons (by first | rfl | assumption) ?_)) ?_)))) | (with_reducible first | apply Tr.next | apply Tr.seq | apply Tr.region | apply Tr.nil | apply Tr.ret)))
    (refine Tr.done (by first | exact .inl rfl | exact .inr rfl) rfl (by repeat (first | exact RVs.nil | (apply RVs.cons; (first | exact RV.tmp rfl | exact RV.cellW (by rfl) (tysOk.get (by rfl)) (by rfl) (by repeat (first | exact Has.here | apply Has.there)) (by first | rfl | assumption))))) (by first | exact Mem.le.refl _ | assumption) (by exact ⟨[_], rfl⟩) ⟨rfl, ?_⟩)
    rw [doF, hn]
    exact ⟨_, rfl, RBk.zero _⟩
end Go.Proofs.Ytgnipfjjkliibaa

/-
  Honour: an element deleted, an element sought.
  Conditions: none.
-/
namespace Go.Proofs.Ytgnipfjjkliibaa
open Go Bf
attribute [local irreducible] Tr Exec Stab HasTy Go.Addr.add IntKind.wrap
theorem erase_cells {cur : List Value} {l : List Int} {i : Nat} (hi : i < l.length) (hc : cur.take l.length = intV l) : (cur.take i ++ (cur.drop (i + 1)).take (l.length - (i + 1)) ++ cur.drop (l.length - 1)).take (l.length - 1) = intV (l.eraseIdx i) ∧ (cur.take i ++ (cur.drop (i + 1)).take (l.length - (i + 1)) ++ cur.drop (l.length - 1)).length = cur.length := by
  have hlen : l.length ≤ cur.length := by
    have := congrArg List.length hc
    rw [List.length_take, intV_length] at this
    omega
  have h1 : (cur.take i ++ (cur.drop (i + 1)).take (l.length - (i + 1))).length = l.length - 1 := by
    rw [List.length_append, List.length_take, List.length_take, List.length_drop]; omega
  refine ⟨?_, ?_⟩
  · rw [List.take_append_of_le_length (by omega), List.take_of_length_le (by omega)]
    have e1 : cur.take i = (intV l).take i := by rw [← hc, List.take_take, Nat.min_eq_left (by omega)]
    have e2 : (cur.drop (i + 1)).take (l.length - (i + 1)) = (intV l).drop (i + 1) := by rw [← hc, List.drop_take]
    rw [e1, e2, List.eraseIdx_eq_take_drop_succ]
    simp [intV]
  · rw [List.length_append, h1, List.length_drop]; omega
set_option maxHeartbeats 4000000 in
theorem delete_own (M : Mem) (A : Option Addr) (c : Nat) (l : List Int) (i : Nat) (hi : i < l.length) (hl : l.length ≤ 1000000) (hc : c ≤ 9223372036854775807) :
    Bf.Fn Try.prog 56 [.slice A l.length c, .int .i64 (i : Int), .int .i64 ((i : Int) + 1)] M [ownS 3 1 A l.length c (intV l)] (fun r M' A' => M = M' ∧ r = .slice A (l.length - 1) c ∧ A' = [ownS 3 1 A (l.length - 1) c (intV (l.eraseIdx i))]) := by
  refine Fn.intro Try.func56 rfl rfl Try.ntmps56 rfl fun E F => ?_
  refine Tr.own_open Del.here (by omega) (fun g cur hA hlc hcl hct => ?_)
  subst hA
  rw [Nat.mul_one] at hcl hct
  have hlen : l.length ≤ cur.length := by omega
  (repeat (first | ((with_reducible refine Tr.step rfl ?_); (first | ((with_reducible refine Knd.move ?_); (refine Exec.stab rfl (Stab.move rfl) rfl ?_)) | ((with_reducible refine Knd.assign ?_); (refine Exec.stab rfl (Stab.assign rfl) rfl ?_)) | ((with_reducible refine Knd.len ?_); (refine Exec.stab rfl (Stab.len rfl (tysOk.get rfl) rfl) rfl ?_)) | ((with_reducible refine Knd.binOp ?_); (refine Exec.stab rfl (Stab.int rfl rfl rfl) rfl ?_)) | ((with_reducible refine Knd.slice ?_); (refine Exec.stab rfl (Stab.slice_lhm rfl rfl rfl rfl (tysOk.get rfl) rfl (tysOk.get rfl) rfl (by omega) (by omega) (by omega) (by omega)) rfl ?_)))) | (with_reducible first | apply Tr.next | apply Tr.seq | apply Tr.region | apply Tr.nil | apply Tr.skip) | (refine Tr.cond_f rfl (by omega) ?_)))
  have hcell := erase_cells hi hct
  have hone : ∀ u ∈ (cur.drop (i + 1)).take (l.length - (i + 1)), u.oneCell' = true := fun u hu => by
    rw [← List.drop_take, hct] at hu
    exact intV_one l u (List.mem_of_mem_drop hu)
  have e1 : ((i : Int)).toNat = i := Int.toNat_natCast i
  have e2 : ((i : Int) + 1).toNat = i + 1 := by omega
  have e3 : i + (l.length - (i + 1)) = l.length - 1 := by omega
  (((apply Tr.draw); (kernel_rfl)); (refine TrA.take 0 (by kernel_rfl) rfl (by kernel_rfl) (by exact fun _ _ _ h => h) (by exact fun _ h => h) rfl (by first | exact Stab.move rfl) rfl rfl ?_); (refine TrA.take 1 (by kernel_rfl) rfl (by kernel_rfl) (by exact fun _ _ _ h => h) (by exact fun _ h => h) rfl (by first | exact Stab.move rfl) rfl rfl ?_); (refine TrA.take 3 (by kernel_rfl) rfl (by kernel_rfl) (by exact fun _ _ _ h => h) (by exact fun _ h => h) rfl (by first | exact Stab.move rfl) rfl rfl ?_); (refine TrA.take 4 (by kernel_rfl) rfl (by kernel_rfl) (by exact fun _ _ _ h => h) (by exact fun _ h => h) rfl (by first | exact Stab.move rfl) rfl rfl ?_); (refine TrA.take 2 (by kernel_rfl) rfl (by kernel_rfl) (by exact fun _ _ _ h => h) (by exact fun _ h => h) rfl (by exact Stab.slice_h rfl rfl (tysOk.get rfl) rfl (tysOk.get rfl) (by omega) (by omega)) rfl rfl ?_); (refine TrA.take 5 (by kernel_rfl) rfl (by kernel_rfl) (by exact fun _ _ _ h => h) (by exact fun _ h => h) rfl (by exact Stab.slice_l rfl rfl (tysOk.get rfl) rfl (tysOk.get rfl) rfl (by omega) (by omega)) rfl rfl ?_); (refine TrA.effD 6 rfl (by kernel_rfl) (by kernel_rfl) (by exact .inl rfl) ?_))
  refine Exec.appendIn (j := i + 1) rfl rfl (by (rw [e2]); split; (exact ⟨_, rfl, .inl (by omega)⟩); (exact ⟨_, rfl, .inr (by simp [Addr.add])⟩)) (tysOk.get rfl) rfl (tysOk.get rfl) rfl (by omega) (by omega) (by omega) (by rw [e2]; exact hone) Upd.here rfl ?_
  refine ⟨_, fun _ h => h, ?_⟩
  rw [e1, e2, e3]
  obtain ⟨hc1, hc2⟩ := hcell
  generalize cur.take i ++ (cur.drop (i + 1)).take (l.length - (i + 1)) ++ cur.drop (l.length - 1) = cur2 at hc1 hc2
  clear hct hone
  ((refine TrA.take 7 (by kernel_rfl) rfl (by kernel_rfl) (by exact fun _ _ _ h => h) (by exact fun _ h => h) rfl (by first | exact Stab.assign rfl) rfl rfl ?_); (refine TrA.done (by kernel_rfl) ?_))
  (repeat (first | ((with_reducible refine Tr.step rfl ?_); (first | ((with_reducible refine Knd.move ?_); (refine Exec.stab rfl (Stab.move rfl) rfl ?_)) | ((with_reducible refine Knd.len ?_); (refine Exec.stab rfl (Stab.len rfl (tysOk.get rfl) rfl) rfl ?_)) | ((with_reducible refine Knd.slice ?_); (refine Exec.stab rfl (Stab.slice_lh rfl rfl rfl (tysOk.get rfl) rfl (tysOk.get rfl) rfl (by omega) (by omega) (by omega)) rfl ?_)))) | (with_reducible first | apply Tr.next | apply Tr.seq | apply Tr.region)))
  have e4 : (((l.length - 1 : Nat) : Int)).toNat = l.length - 1 := Int.toNat_natCast _
  have e5 : ((l.length : Int)).toNat = l.length := Int.toNat_natCast _
  rw [e4, e5]
  ((refine Tr.step rfl ?_))
  refine Exec.clearAt (o := l.length - 1) (m := 1) (cs := cur2) (z := .int .i64 0) (c := c - (l.length - 1)) (by
    rw [if_neg (by omega), show l.length - (l.length - 1) = 1 by omega]
    simp [ev, look_cons_eq, Addr.add]; omega) (tysOk.get rfl) rfl (tysOk.get rfl) rfl rfl rfl Upd.here (by omega) (by omega) ?_
  have hc3 : (cur2.take (l.length - 1) ++ List.replicate 1 (Value.int .i64 0) ++ cur2.drop (l.length - 1 + 1)).take ((l.length - 1) * 1) = intV (l.eraseIdx i) := by
    rw [Nat.mul_one, List.append_assoc, List.take_append_of_le_length (by rw [List.length_take]; omega), List.take_of_length_le (by rw [List.length_take]; omega)]
    exact hc1
  have hc4 : (cur2.take (l.length - 1) ++ List.replicate 1 (Value.int .i64 0) ++ cur2.drop (l.length - 1 + 1)).length = c * 1 := by
    simp only [List.length_append, List.length_take, List.length_drop, List.length_replicate]; omega
  generalize cur2.take (l.length - 1) ++ List.replicate 1 (Value.int .i64 0) ++ cur2.drop (l.length - 1 + 1) = cur3 at hc3 hc4
  refine Tr.box_ownC 1 (l.length - 1) c Upd.here hc4 (by omega) hc hc3 (intV_one _) ?_
  (repeat (first | ((with_reducible refine Tr.step rfl ?_); (first | ((with_reducible refine Knd.move ?_); (refine Exec.stab rfl (Stab.move rfl) rfl ?_)) | ((with_reducible refine Knd.assign ?_); (refine Exec.stab rfl (Stab.assign rfl) rfl ?_)))) | (with_reducible first | apply Tr.next | apply Tr.seq | apply Tr.region | apply Tr.nil | apply Tr.ret)))
  refine Tr.doneA (A' := [ownS 3 1 (some ⟨g, 0, none⟩) (l.length - 1) c (intV (l.eraseIdx i))]) (by first | exact .inl rfl | exact .inr rfl) rfl (by repeat (first | exact RVs.nil | (apply RVs.cons; (exact RV.tmp rfl)))) (Mem.le.refl _) ⟨fun _ h => h, fun h => h⟩ ⟨rfl, rfl, rfl⟩
set_option maxHeartbeats 4000000 in
theorem index_fn (M : Mem) (A : Option Addr) (c : Nat) (l : List Int) (x : Int) (h : Ints M (.slice A l.length c) l) :
    Fn0 Try.prog 81 [.slice A l.length c, .int .i64 x] M (fun r M' => (∃ z : Int, r = .int .i64 z ∧ ((0 ≤ z ∧ x ∈ l) ∨ (z = -1 ∧ x ∉ l))) ∧ M = M') := by
  have hll := h.len_le
  refine Fn.intro Try.func81 rfl rfl Try.ntmps81 rfl fun E F => ?_
  (repeat (first | ((with_reducible refine Tr.step rfl ?_); (first | ((with_reducible refine Knd.move ?_); (refine Exec.stab rfl (Stab.move rfl) rfl ?_)) | ((with_reducible refine Knd.assign ?_); (refine Exec.stab rfl (Stab.assign rfl) rfl ?_)) | ((with_reducible refine Knd.len ?_); (refine Exec.stab rfl (Stab.len rfl (tysOk.get rfl) rfl) rfl ?_)))) | (with_reducible first | apply Tr.next | apply Tr.seq | apply Tr.region | apply Tr.nil | apply Tr.block)))
  refine Tr.loop (α := Nat) (fun y => ⟨19, [(8, .int .i64 (y : Int)), (7, .int .i64 (l.length : Int)), (6, .slice A l.length c), (4, .int .i64 0), (0, .slice A l.length c), (1, .int .i64 x)], [], M, [] ++ F⟩)
    (fun y => y ≤ l.length ∧ ∀ t u, t < y → l[t]? = some u → u ≠ x) (fun y => l.length - y) 0 ⟨Nat.zero_le _, fun t _ ht => by omega⟩ (holds_sub (by repeat (first | exact SubFr.nil | refine SubFr.cons rfl ?_)) (by repeat (first | exact DropL.refl | apply DropL.skip))) (fun i hi => ?_)
  obtain ⟨hi, hall⟩ := hi
  by_cases hlt : i < l.length
  · obtain ⟨u, hu⟩ := get_of_lt hlt
    obtain ⟨hA, hat⟩ := Ints.at h hu
    by_cases e : x = u
    · (repeat (first | ((with_reducible refine Tr.step rfl ?_); (first | ((with_reducible refine Knd.move ?_); (refine Exec.stab rfl (Stab.move rfl) rfl ?_)) | ((with_reducible refine Knd.assign ?_); (refine Exec.stab rfl (Stab.assign rfl) rfl ?_)) | ((with_reducible refine Knd.load ?_); (refine Exec.stab rfl (Stab.loadM rfl (tysOk.get rfl) rfl (by assumption)) rfl ?_)) | ((with_reducible refine Knd.binOp ?_); (refine Exec.stab rfl (Stab.int rfl rfl rfl) rfl ?_)) | ((with_reducible refine Knd.indexAddr ?_); (refine Exec.stab rfl (Stab.indexAddr rfl rfl (tysOk.get rfl) rfl (tysOk.get rfl) rfl (by omega) (by omega) (by first | rfl | assumption)) rfl ?_)))) | (with_reducible first | apply Tr.next | apply Tr.seq | apply Tr.region | apply Tr.nil | apply Tr.skip | apply Tr.block | apply Tr.ret | apply Tr.then_ret | apply Tr.in_ret) | (refine Tr.cond_t rfl (by first | (with_reducible assumption) | omega) ?_)))
      (refine Tr.done (by first | exact .inl rfl | exact .inr rfl) rfl (by repeat (first | exact RVs.nil | (apply RVs.cons; (exact RV.tmp rfl)))) (by first | exact Mem.le.refl _ | assumption) (by exact ⟨[], rfl⟩) ⟨rfl, ?_⟩)
      exact ⟨⟨(i : Int), rfl, .inl ⟨by omega, e ▸ List.mem_of_getElem? hu⟩⟩, rfl⟩
    · (repeat (first | ((with_reducible refine Tr.step rfl ?_); (first | ((with_reducible refine Knd.move ?_); (refine Exec.stab rfl (Stab.move rfl) rfl ?_)) | ((with_reducible refine Knd.assign ?_); (refine Exec.stab rfl (Stab.assign rfl) rfl ?_)) | ((with_reducible refine Knd.load ?_); (refine Exec.stab rfl (Stab.loadM rfl (tysOk.get rfl) rfl (by assumption)) rfl ?_)) | ((with_reducible refine Knd.binOp ?_); (first | (refine Exec.stab rfl (Stab.addi rfl rfl (by omega)) rfl ?_) | (refine Exec.stab rfl (Stab.int rfl rfl rfl) rfl ?_))) | ((with_reducible refine Knd.indexAddr ?_); (refine Exec.stab rfl (Stab.indexAddr rfl rfl (tysOk.get rfl) rfl (tysOk.get rfl) rfl (by omega) (by omega) (by first | rfl | assumption)) rfl ?_)))) | (with_reducible first | apply Tr.next | apply Tr.seq | apply Tr.region | apply Tr.nil | apply Tr.skip | apply Tr.block | apply Tr.in_normal) | (refine Tr.cond_t rfl (by first | (with_reducible assumption) | omega) ?_) | (refine Tr.cond_f rfl (by (with_reducible assumption)) ?_)))
      refine Tr.again (i + 1) ⟨by omega, fun t w ht hw => ?_⟩ (by omega) (holds_sub (by repeat (first | exact SubFr.nil | refine SubFr.cons rfl ?_)) (by repeat (first | exact DropL.refl | apply DropL.skip)))
      by_cases ht2 : t < i
      · exact hall t w ht2 hw
      · have : t = i := by omega
        subst this
        rw [hu] at hw
        cases hw
        exact fun h => e h.symm
  have ei : i = l.length := by omega
  subst ei
  (repeat (first | ((with_reducible refine Tr.step rfl ?_); (first | ((with_reducible refine Knd.assign ?_); (refine Exec.stab rfl (Stab.assign rfl) rfl ?_)) | ((with_reducible refine Knd.binOp ?_); (refine Exec.stab rfl (Stab.int rfl rfl rfl) rfl ?_)))) | (with_reducible first | apply Tr.next | apply Tr.seq | apply Tr.region | apply Tr.nil | apply Tr.exit | apply Tr.ret | apply Tr.then_exit) | ((with_reducible refine Tr.in_exit ?_ ?_); (exact rfl)) | (refine Tr.cond_f rfl (by first | (with_reducible assumption) | omega) ?_)))
  (refine Tr.done (by first | exact .inl rfl | exact .inr rfl) rfl (by repeat (first | exact RVs.nil | (apply RVs.cons; (exact RV.tmp rfl)))) (by first | exact Mem.le.refl _ | assumption) (by exact ⟨[], rfl⟩) ⟨rfl, ?_⟩)
  refine ⟨⟨-1, rfl, .inr ⟨rfl, fun hm => ?_⟩⟩, rfl⟩
  obtain ⟨t, ht, e⟩ := List.getElem_of_mem hm
  exact hall t _ ht (List.getElem?_eq_getElem ht) e
set_option maxHeartbeats 4000000 in
theorem contains_fn (M : Mem) (A : Option Addr) (c : Nat) (l : List Int) (x : Int) (h : Ints M (.slice A l.length c) l) :
    Fn0 Try.prog 58 [.slice A l.length c, .int .i64 x] M (fun r M' => (∃ b : Bool, r = .bool b ∧ (b = true ↔ x ∈ l)) ∧ M = M') := by
  refine Fn.intro Try.func58 rfl rfl Try.ntmps58 rfl fun E F => ?_
  (repeat (first | ((with_reducible refine Tr.step rfl ?_); (first | ((with_reducible refine Knd.move ?_); (refine Exec.stab rfl (Stab.move rfl) rfl ?_)) | ((with_reducible refine Knd.assign ?_); (refine Exec.stab rfl (Stab.assign rfl) rfl ?_)))) | (with_reducible first | apply Tr.next | apply Tr.seq | apply Tr.region | apply Tr.nil)))
  ((refine Tr.step rfl ?_)); refine Exec.call0 rfl (index_fn M A c l x h) rfl ?_
  rintro _ _ _ ⟨⟨z, rfl, hz⟩, rfl⟩
  (repeat (first | ((with_reducible refine Tr.step rfl ?_); (first | ((with_reducible refine Knd.assign ?_); (refine Exec.stab rfl (Stab.assign rfl) rfl ?_)) | ((with_reducible refine Knd.binOp ?_); (refine Exec.stab rfl (Stab.int rfl rfl rfl) rfl ?_)))) | (with_reducible first | apply Tr.next | apply Tr.nil | apply Tr.ret)))
  (refine Tr.done (by first | exact .inl rfl | exact .inr rfl) rfl (by repeat (first | exact RVs.nil | (apply RVs.cons; (exact RV.tmp rfl)))) (by first | exact Mem.le.refl _ | assumption) (by exact ⟨[], rfl⟩) ⟨rfl, ?_⟩)
  refine ⟨⟨_, rfl, ?_⟩, rfl⟩
  rw [decide_eq_true_iff]
  rcases hz with ⟨h1, h2⟩ | ⟨h1, h2⟩
  · exact ⟨fun _ => h2, fun _ => h1⟩
  · exact ⟨fun h => by omega, fun h => absurd h h2⟩
end Go.Proofs.Ytgnipfjjkliibaa

/-
  Honour: begin, with what it made handed out.
  Conditions: none.
-/
namespace Go.Proofs.Ytgnipfjjkliibaa
open Go Bf
attribute [local irreducible] Tr Exec Stab HasTy Go.Addr.add IntKind.wrap
theorem perm52 {α : Type} (a b c d e f g : α) (F : List α) : (a :: b :: c :: d :: e :: f :: g :: F).Perm (f :: g :: a :: b :: c :: d :: e :: F) := (List.perm_append_comm (l₁ := [a, b, c, d, e]) (l₂ := [f, g])).append_right F
set_option maxHeartbeats 8000000 in
theorem hbegin_own (M : Mem) (v : Value) (k : Bk) (h : RBk M v k) (hs : k.sups.length ≤ 1000000) (hr : k.reqs.length ≤ 1000000) :
    Bf.Fn Try.prog 34 [v] M [] (fun r M' A' => M = M' ∧ ∃ Af cf A1 c1 A2 c2 A3 c3 A4 c4 A5 c5, r = .agg #[.slice Af k.fits.length cf, .slice A1 k.sups.length c1, .slice A2 k.sups.length c2, .slice A3 k.reqs.length c3, .slice A4 k.reqs.length c4, .slice A5 k.reqs.length c5] ∧
      Fits2 M (.slice Af k.fits.length cf) k.fits ∧ (c1 ≤ 9223372036854775807 ∧ c2 ≤ 9223372036854775807 ∧ c3 ≤ 9223372036854775807 ∧ c4 ≤ 9223372036854775807 ∧ c5 ≤ 9223372036854775807) ∧
      A' = [ownS 3 1 A3 k.reqs.length c3 (intV (beginF k).nd), ownS 3 1 A4 k.reqs.length c4 (intV (fxB k).due), ownS 3 1 A5 k.reqs.length c5 (intV (beginF k).br), ownS 3 1 A1 k.sups.length c1 (intV (beginF k).am), ownS 3 1 A2 k.sups.length c2 (intV (beginF k).dy)]) := by
  obtain ⟨As, cs, Ar, cr, Af, cf, Ad, cd, rfl, h1, h2, h3⟩ := h
  refine Fn.intro Try.func34 rfl rfl Try.ntmps34 rfl fun E F => ?_
  (repeat (first | ((with_reducible refine Tr.step rfl ?_); (first | ((with_reducible refine Knd.move ?_); (refine Exec.stab rfl (Stab.move rfl) rfl ?_)) | ((with_reducible refine Knd.load ?_); (refine Exec.stab rfl (Stab.load rfl (tysOk.get rfl) rfl (by repeat (first | exact Has.here | apply Has.there)) rfl) rfl ?_)) | ((with_reducible refine Knd.fieldAddr ?_); (refine Exec.stab rfl (Stab.fieldZ rfl (tysOk.get rfl) rfl rfl (tysOk.get rfl) rfl) rfl ?_)) | ((with_reducible refine Knd.len ?_); (refine Exec.stab rfl (Stab.len rfl (tysOk.get rfl) rfl) rfl ?_)) | ((with_reducible refine Knd.store ?_); (refine Exec.store rfl rfl (tysOk.get rfl) rfl (by first | rfl | assumption) (by repeat (first | exact Upd.here | apply Upd.there)) (by repeat (first | exact SetL.z | apply SetL.s)) ?_)) | ((with_reducible refine Knd.box ?_); (refine Exec.box rfl rfl (fun b => ?_))) | ((with_reducible refine Knd.alloc ?_); (refine Exec.alloc (tysOk.get rfl) rfl rfl (fun b => ?_))))) | (with_reducible first | apply Tr.next | apply Tr.seq | apply Tr.region | apply Tr.nil | apply Tr.block)))
  rename_i b1
  generalize b = b2
  refine Tr.own_nil 3 1 ?_
  refine Tr.own_nil 3 1 ?_
  refine Tr.loop (α := Nat × (Option Addr × Nat) × (Option Addr × Nat)) (fun y => ⟨60, [(13, .int .i64 (y.1 : Int)), (12, .int .i64 (k.sups.length : Int)), (11, .slice As k.sups.length cs), (2, .pointer (some ⟨b2, 0, none⟩)), (1, .pointer (some ⟨b1, 0, none⟩))], [], M,
      ownS 3 1 y.2.1.1 y.1 y.2.1.2 (intV ((k.sups.take y.1).map (·.amount))) :: ownS 3 1 y.2.2.1 y.1 y.2.2.2 (intV ((k.sups.take y.1).map (·.ready))) :: box b2 64 [.slice Af k.fits.length cf, .slice y.2.1.1 y.1 y.2.1.2, .slice y.2.2.1 y.1 y.2.2.2, .slice none 0 0, .slice none 0 0, .slice none 0 0] :: box b1 27 [.int .i64 k.known, .slice As k.sups.length cs, .slice Ar k.reqs.length cr, .slice Af k.fits.length cf, .slice Ad k.reads cd] :: ([] ++ F)⟩)
    (fun y => y.1 ≤ k.sups.length ∧ y.2.1.2 ≤ 9223372036854775807 ∧ y.2.2.2 ≤ 9223372036854775807) (fun y => k.sups.length - y.1) (0, (none, 0), (none, 0)) ⟨Nat.zero_le _, by show (0 : Nat) ≤ _; omega, by show (0 : Nat) ≤ _; omega⟩ (holds_sub (by repeat (first | exact SubFr.nil | refine SubFr.cons rfl ?_)) (by repeat (first | exact DropL.refl | apply DropL.skip))) (fun y hy => ?_)
  obtain ⟨i, ⟨A1, c1⟩, ⟨A2, c2⟩⟩ := y
  obtain ⟨hi, hc1, hc2⟩ := hy
  simp only at hi hc1 hc2
  dsimp only
  by_cases hlt : i < k.sups.length
  · obtain ⟨y, hy⟩ := get_of_lt hlt
    obtain ⟨hA, ch, hat, rfl⟩ := h1.elem hy
    have e1 := map_take_succ (·.amount) hy
    have e2 := map_take_succ (·.ready) hy
    (repeat (first | ((with_reducible refine Tr.step rfl ?_); (first | ((with_reducible refine Knd.load ?_); (first | (refine Exec.stab rfl (Stab.load rfl (tysOk.get rfl) rfl (by repeat (first | exact Has.here | apply Has.there)) rfl) rfl ?_) | (refine Exec.stab rfl (Stab.loadMA rfl (tysOk.get rfl) rfl (by assumption) (by first | rfl | assumption)) rfl ?_))) | ((with_reducible refine Knd.fieldAddr ?_); (refine Exec.stab rfl (Stab.fieldZ rfl (tysOk.get rfl) rfl rfl (tysOk.get rfl) rfl) rfl ?_)) | ((with_reducible refine Knd.binOp ?_); (refine Exec.stab rfl (Stab.int rfl rfl rfl) rfl ?_)) | ((with_reducible refine Knd.store ?_); (refine Exec.storeW rfl rfl (tysOk.get rfl) (by repeat (first | exact Upd.here | apply Upd.there)) rfl rfl (by repeat (first | exact AllOne.nil | refine AllOne.cons (by first | rfl | assumption) ?_)) ?_)) | ((with_reducible refine Knd.alloc ?_); (refine Exec.alloc (tysOk.get rfl) rfl rfl (fun b => ?_))) | ((with_reducible refine Knd.indexAddr ?_); (refine Exec.stab rfl (Stab.indexAddr rfl rfl (tysOk.get rfl) rfl (tysOk.get rfl) rfl (by omega) (by omega) (by first | rfl | assumption)) rfl ?_)) | ((with_reducible refine Knd.buildSlice ?_); (refine Exec.buildSlice (tysOk.get rfl) rfl (tysOk.get rfl) rfl rfl rfl rfl rfl (by repeat (first | exact BuildP.nil | ((apply BuildP.one); (rfl); (rfl); (first | rfl | assumption); (repeat (first | exact SetL.z | apply SetL.s))))) rfl (fun b => ?_))))) | (with_reducible first | apply Tr.next | apply Tr.seq | apply Tr.region | apply Tr.nil | apply Tr.skip | apply Tr.block) | (refine Tr.cond_t rfl (by first | (with_reducible assumption) | omega) ?_)))
    rename_i b4
    ((refine Tr.step rfl ?_))
    refine Exec.append (news := [.int .i64 (y.amount)]) rfl rfl (tysOk.get rfl) rfl (tysOk.get rfl) rfl rfl rfl rfl (by repeat (first | exact Del.here | apply Del.there)) (Src.box (by repeat (first | exact Has.here | apply Has.there))) rfl (by intro u hu; simp at hu; subst hu; rfl) (by omega) (by omega) rfl (fun A3 c3 hc3 => ?_)
    refine Tr.give (r := box b 3 _) (by repeat (first | exact Del.here | apply Del.there)) ?_
    rw [show intV ((k.sups.take i).map (·.amount)) ++ [Value.int .i64 y.amount] = intV ((k.sups.take (i + 1)).map (·.amount)) by rw [e1, intV_append]; rfl]
    (repeat (first | ((with_reducible refine Tr.step rfl ?_); (first | ((with_reducible refine Knd.load ?_); (refine Exec.stab rfl (Stab.load rfl (tysOk.get rfl) rfl (by repeat (first | exact Has.here | apply Has.there)) rfl) rfl ?_)) | ((with_reducible refine Knd.fieldAddr ?_); (refine Exec.stab rfl (Stab.fieldZ rfl (tysOk.get rfl) rfl rfl (tysOk.get rfl) rfl) rfl ?_)) | ((with_reducible refine Knd.store ?_); (refine Exec.store rfl rfl (tysOk.get rfl) rfl (by first | rfl | assumption) (by repeat (first | exact Upd.here | apply Upd.there)) (by repeat (first | exact SetL.z | apply SetL.s)) ?_)) | ((with_reducible refine Knd.buildSlice ?_); (refine Exec.buildSlice (tysOk.get rfl) rfl (tysOk.get rfl) rfl rfl rfl rfl rfl (by repeat (first | exact BuildP.nil | ((apply BuildP.one); (rfl); (rfl); (first | rfl | assumption); (repeat (first | exact SetL.z | apply SetL.s))))) rfl (fun b => ?_))))) | (with_reducible first | apply Tr.next | apply Tr.region | apply Tr.nil)))
    ((refine Tr.step rfl ?_))
    refine Exec.append (news := [.int .i64 (y.ready)]) rfl rfl (tysOk.get rfl) rfl (tysOk.get rfl) rfl rfl rfl rfl (by repeat (first | exact Del.here | apply Del.there)) (Src.box (by repeat (first | exact Has.here | apply Has.there))) rfl (by intro u hu; simp at hu; subst hu; rfl) (by omega) (by omega) rfl (fun A4 c4 hc4 => ?_)
    refine Tr.give (r := box b 3 _) (by repeat (first | exact Del.here | apply Del.there)) ?_
    rw [show intV ((k.sups.take i).map (·.ready)) ++ [Value.int .i64 y.ready] = intV ((k.sups.take (i + 1)).map (·.ready)) by rw [e2, intV_append]; rfl]
    (repeat (first | ((with_reducible refine Tr.step rfl ?_); (first | ((with_reducible refine Knd.move ?_); (refine Exec.stab rfl (Stab.move rfl) rfl ?_)) | ((with_reducible refine Knd.fieldAddr ?_); (refine Exec.stab rfl (Stab.fieldZ rfl (tysOk.get rfl) rfl rfl (tysOk.get rfl) rfl) rfl ?_)) | ((with_reducible refine Knd.binOp ?_); (refine Exec.stab rfl (Stab.addi rfl rfl (by omega)) rfl ?_)) | ((with_reducible refine Knd.store ?_); (refine Exec.store rfl rfl (tysOk.get rfl) rfl (by first | rfl | assumption) (by repeat (first | exact Upd.here | apply Upd.there)) (by repeat (first | exact SetL.z | apply SetL.s)) ?_)))) | (with_reducible first | apply Tr.next | apply Tr.region | apply Tr.nil | apply Tr.in_normal)))
    refine Tr.give (r := box b4 _ _) (by repeat (first | exact Del.here | apply Del.there)) ?_
    refine Tr.front (x := ownS 3 1 A3 _ _ _) (by repeat (first | exact Del.here | apply Del.there)) ?_
    exact Tr.again (i + 1, (A3, c3), (A4, c4)) ⟨by simp only; omega, hc3, hc4⟩ (by simp only; omega) (holds_sub (by repeat (first | exact SubFr.nil | refine SubFr.cons rfl ?_)) (by repeat (first | exact DropL.refl | apply DropL.skip)))
  have ei : i = k.sups.length := by omega
  subst ei
  rw [List.take_length]
  (repeat (first | ((with_reducible refine Tr.step rfl ?_); (first | ((with_reducible refine Knd.move ?_); (refine Exec.stab rfl (Stab.move rfl) rfl ?_)) | ((with_reducible refine Knd.load ?_); (refine Exec.stab rfl (Stab.load rfl (tysOk.get rfl) rfl (by repeat (first | exact Has.here | apply Has.there)) rfl) rfl ?_)) | ((with_reducible refine Knd.fieldAddr ?_); (refine Exec.stab rfl (Stab.fieldZ rfl (tysOk.get rfl) rfl rfl (tysOk.get rfl) rfl) rfl ?_)) | ((with_reducible refine Knd.len ?_); (refine Exec.stab rfl (Stab.len rfl (tysOk.get rfl) rfl) rfl ?_)) | ((with_reducible refine Knd.binOp ?_); (refine Exec.stab rfl (Stab.int rfl rfl rfl) rfl ?_)))) | (with_reducible first | apply Tr.next | apply Tr.seq | apply Tr.region | apply Tr.nil | apply Tr.block | apply Tr.exit | apply Tr.then_exit) | ((with_reducible refine Tr.in_exit ?_ ?_); (exact rfl)) | (refine Tr.cond_f rfl (by first | (with_reducible assumption) | omega) ?_)))
  refine Tr.own_nil 3 1 ?_
  refine Tr.own_nil 3 1 ?_
  refine Tr.own_nil 3 1 ?_
  refine Tr.loop (α := Nat × (Option Addr × Nat) × (Option Addr × Nat) × (Option Addr × Nat)) (fun y => ⟨60, [(35, .int .i64 (y.1 : Int)), (34, .int .i64 (k.reqs.length : Int)), (33, .slice Ar k.reqs.length cr), (2, .pointer (some ⟨b2, 0, none⟩)), (1, .pointer (some ⟨b1, 0, none⟩))], [], M,
      ownS 3 1 y.2.1.1 y.1 y.2.1.2 (intV ((k.reqs.take y.1).map (·.amount))) :: ownS 3 1 y.2.2.1.1 y.1 y.2.2.1.2 (intV ((k.reqs.take y.1).map (·.due))) :: ownS 3 1 y.2.2.2.1 y.1 y.2.2.2.2 (intV ((k.reqs.take y.1).map fun _ => -1)) :: ownS 3 1 A1 k.sups.length c1 (intV (k.sups.map (·.amount))) :: ownS 3 1 A2 k.sups.length c2 (intV (k.sups.map (·.ready))) :: box b2 64 [.slice Af k.fits.length cf, .slice A1 k.sups.length c1, .slice A2 k.sups.length c2, .slice y.2.1.1 y.1 y.2.1.2, .slice y.2.2.1.1 y.1 y.2.2.1.2, .slice y.2.2.2.1 y.1 y.2.2.2.2] :: box b1 27 [.int .i64 k.known, .slice As k.sups.length cs, .slice Ar k.reqs.length cr, .slice Af k.fits.length cf, .slice Ad k.reads cd] :: ([] ++ F)⟩)
    (fun y => y.1 ≤ k.reqs.length ∧ y.2.1.2 ≤ 9223372036854775807 ∧ y.2.2.1.2 ≤ 9223372036854775807 ∧ y.2.2.2.2 ≤ 9223372036854775807) (fun y => k.reqs.length - y.1) (0, (none, 0), (none, 0), (none, 0)) ⟨Nat.zero_le _, by show (0 : Nat) ≤ _; omega, by show (0 : Nat) ≤ _; omega, by show (0 : Nat) ≤ _; omega⟩ (holds_sub (by repeat (first | exact SubFr.nil | refine SubFr.cons rfl ?_)) (by repeat (first | exact DropL.refl | apply DropL.skip))) (fun y hy => ?_)
  obtain ⟨i, ⟨A3, c3⟩, ⟨A4, c4⟩, ⟨A5, c5⟩⟩ := y
  obtain ⟨hi, hc3, hc4, hc5⟩ := hy
  simp only at hi hc3 hc4 hc5
  dsimp only
  by_cases hlt2 : i < k.reqs.length
  · obtain ⟨y, hy⟩ := get_of_lt hlt2
    obtain ⟨hA, ch, hat, rfl⟩ := h2.elem hy
    have e1 := map_take_succ (·.amount) hy
    have e2 := map_take_succ (·.due) hy
    have e3 := map_take_succ (fun _ : Rq => (-1 : Int)) hy
    (repeat (first | ((with_reducible refine Tr.step rfl ?_); (first | ((with_reducible refine Knd.load ?_); (first | (refine Exec.stab rfl (Stab.load rfl (tysOk.get rfl) rfl (by repeat (first | exact Has.here | apply Has.there)) rfl) rfl ?_) | (refine Exec.stab rfl (Stab.loadMA rfl (tysOk.get rfl) rfl (by assumption) (by first | rfl | assumption)) rfl ?_))) | ((with_reducible refine Knd.fieldAddr ?_); (refine Exec.stab rfl (Stab.fieldZ rfl (tysOk.get rfl) rfl rfl (tysOk.get rfl) rfl) rfl ?_)) | ((with_reducible refine Knd.binOp ?_); (refine Exec.stab rfl (Stab.int rfl rfl rfl) rfl ?_)) | ((with_reducible refine Knd.store ?_); (refine Exec.storeW rfl rfl (tysOk.get rfl) (by repeat (first | exact Upd.here | apply Upd.there)) rfl rfl (by repeat (first | exact AllOne.nil | refine AllOne.cons (by first | rfl | assumption) ?_)) ?_)) | ((with_reducible refine Knd.alloc ?_); (refine Exec.alloc (tysOk.get rfl) rfl rfl (fun b => ?_))) | ((with_reducible refine Knd.indexAddr ?_); (refine Exec.stab rfl (Stab.indexAddr rfl rfl (tysOk.get rfl) rfl (tysOk.get rfl) rfl (by omega) (by omega) (by first | rfl | assumption)) rfl ?_)) | ((with_reducible refine Knd.buildSlice ?_); (refine Exec.buildSlice (tysOk.get rfl) rfl (tysOk.get rfl) rfl rfl rfl rfl rfl (by repeat (first | exact BuildP.nil | ((apply BuildP.one); (rfl); (rfl); (first | rfl | assumption); (repeat (first | exact SetL.z | apply SetL.s))))) rfl (fun b => ?_))))) | (with_reducible first | apply Tr.next | apply Tr.seq | apply Tr.region | apply Tr.nil | apply Tr.skip | apply Tr.block) | (refine Tr.cond_t rfl (by first | (with_reducible assumption) | omega) ?_)))
    rename_i b4
    ((refine Tr.step rfl ?_))
    refine Exec.append (news := [.int .i64 (y.amount)]) rfl rfl (tysOk.get rfl) rfl (tysOk.get rfl) rfl rfl rfl rfl (by repeat (first | exact Del.here | apply Del.there)) (Src.box (by repeat (first | exact Has.here | apply Has.there))) rfl (by intro u hu; simp at hu; subst hu; rfl) (by omega) (by omega) rfl (fun A6 c6 hc6 => ?_)
    refine Tr.give (r := box b 3 _) (by repeat (first | exact Del.here | apply Del.there)) ?_
    rw [show intV ((k.reqs.take i).map (·.amount)) ++ [Value.int .i64 y.amount] = intV ((k.reqs.take (i + 1)).map (·.amount)) by rw [e1, intV_append]; rfl]
    (repeat (first | ((with_reducible refine Tr.step rfl ?_); (first | ((with_reducible refine Knd.load ?_); (refine Exec.stab rfl (Stab.load rfl (tysOk.get rfl) rfl (by repeat (first | exact Has.here | apply Has.there)) rfl) rfl ?_)) | ((with_reducible refine Knd.fieldAddr ?_); (refine Exec.stab rfl (Stab.fieldZ rfl (tysOk.get rfl) rfl rfl (tysOk.get rfl) rfl) rfl ?_)) | ((with_reducible refine Knd.store ?_); (refine Exec.store rfl rfl (tysOk.get rfl) rfl (by first | rfl | assumption) (by repeat (first | exact Upd.here | apply Upd.there)) (by repeat (first | exact SetL.z | apply SetL.s)) ?_)) | ((with_reducible refine Knd.buildSlice ?_); (refine Exec.buildSlice (tysOk.get rfl) rfl (tysOk.get rfl) rfl rfl rfl rfl rfl (by repeat (first | exact BuildP.nil | ((apply BuildP.one); (rfl); (rfl); (first | rfl | assumption); (repeat (first | exact SetL.z | apply SetL.s))))) rfl (fun b => ?_))))) | (with_reducible first | apply Tr.next | apply Tr.seq | apply Tr.region | apply Tr.nil)))
    ((refine Tr.step rfl ?_))
    refine Exec.append (news := [.int .i64 (y.due)]) rfl rfl (tysOk.get rfl) rfl (tysOk.get rfl) rfl rfl rfl rfl (by repeat (first | exact Del.here | apply Del.there)) (Src.box (by repeat (first | exact Has.here | apply Has.there))) rfl (by intro u hu; simp at hu; subst hu; rfl) (by omega) (by omega) rfl (fun A7 c7 hc7 => ?_)
    refine Tr.give (r := box b 3 _) (by repeat (first | exact Del.here | apply Del.there)) ?_
    rw [show intV ((k.reqs.take i).map (·.due)) ++ [Value.int .i64 y.due] = intV ((k.reqs.take (i + 1)).map (·.due)) by rw [e2, intV_append]; rfl]
    (repeat (first | ((with_reducible refine Tr.step rfl ?_); (first | ((with_reducible refine Knd.load ?_); (refine Exec.stab rfl (Stab.load rfl (tysOk.get rfl) rfl (by repeat (first | exact Has.here | apply Has.there)) rfl) rfl ?_)) | ((with_reducible refine Knd.fieldAddr ?_); (refine Exec.stab rfl (Stab.fieldZ rfl (tysOk.get rfl) rfl rfl (tysOk.get rfl) rfl) rfl ?_)) | ((with_reducible refine Knd.store ?_); (refine Exec.store rfl rfl (tysOk.get rfl) rfl (by first | rfl | assumption) (by repeat (first | exact Upd.here | apply Upd.there)) (by repeat (first | exact SetL.z | apply SetL.s)) ?_)) | ((with_reducible refine Knd.buildSlice ?_); (refine Exec.buildSlice (tysOk.get rfl) rfl (tysOk.get rfl) rfl rfl rfl rfl rfl (by repeat (first | exact BuildP.nil | ((apply BuildP.one); (rfl); (rfl); (first | rfl | assumption); (repeat (first | exact SetL.z | apply SetL.s))))) rfl (fun b => ?_))))) | (with_reducible first | apply Tr.next | apply Tr.region | apply Tr.nil)))
    ((refine Tr.step rfl ?_))
    refine Exec.append (news := [.int .i64 (-1)]) rfl rfl (tysOk.get rfl) rfl (tysOk.get rfl) rfl rfl rfl rfl (by repeat (first | exact Del.here | apply Del.there)) (Src.box (by repeat (first | exact Has.here | apply Has.there))) rfl (by intro u hu; simp at hu; subst hu; rfl) (by omega) (by omega) rfl (fun A8 c8 hc8 => ?_)
    refine Tr.give (r := box b 3 _) (by repeat (first | exact Del.here | apply Del.there)) ?_
    rw [show intV ((k.reqs.take i).map fun _ => -1) ++ [Value.int .i64 (-1)] = intV ((k.reqs.take (i + 1)).map fun _ => -1) by rw [e3, intV_append]; rfl]
    (repeat (first | ((with_reducible refine Tr.step rfl ?_); (first | ((with_reducible refine Knd.move ?_); (refine Exec.stab rfl (Stab.move rfl) rfl ?_)) | ((with_reducible refine Knd.fieldAddr ?_); (refine Exec.stab rfl (Stab.fieldZ rfl (tysOk.get rfl) rfl rfl (tysOk.get rfl) rfl) rfl ?_)) | ((with_reducible refine Knd.binOp ?_); (refine Exec.stab rfl (Stab.addi rfl rfl (by omega)) rfl ?_)) | ((with_reducible refine Knd.store ?_); (refine Exec.store rfl rfl (tysOk.get rfl) rfl (by first | rfl | assumption) (by repeat (first | exact Upd.here | apply Upd.there)) (by repeat (first | exact SetL.z | apply SetL.s)) ?_)))) | (with_reducible first | apply Tr.next | apply Tr.region | apply Tr.nil | apply Tr.in_normal)))
    refine Tr.give (r := box b4 _ _) (by repeat (first | exact Del.here | apply Del.there)) ?_
    refine Tr.front (x := ownS 3 1 A7 _ _ _) (by repeat (first | exact Del.here | apply Del.there)) ?_
    refine Tr.front (x := ownS 3 1 A6 _ _ _) (by repeat (first | exact Del.here | apply Del.there)) ?_
    exact Tr.again (i + 1, (A6, c6), (A7, c7), (A8, c8)) ⟨by simp only; omega, hc6, hc7, hc8⟩ (by simp only; omega) (holds_sub (by repeat (first | exact SubFr.nil | refine SubFr.cons rfl ?_)) (by repeat (first | exact DropL.refl | apply DropL.skip)))
  have ei : i = k.reqs.length := by omega
  subst ei
  rw [List.take_length]
  (repeat (first | ((with_reducible refine Tr.step rfl ?_); (first | ((with_reducible refine Knd.load ?_); (refine Exec.stab rfl (Stab.loadW rfl (tysOk.get rfl) rfl (by repeat (first | exact Has.here | apply Has.there)) rfl) rfl ?_)) | ((with_reducible refine Knd.binOp ?_); (refine Exec.stab rfl (Stab.int rfl rfl rfl) rfl ?_)) | ((with_reducible refine Knd.store ?_); (refine Exec.storeW rfl rfl (tysOk.get rfl) (by repeat (first | exact Upd.here | apply Upd.there)) rfl rfl (by repeat (first | exact AllOne.nil | refine AllOne.cons (by first | rfl | assumption) ?_)) ?_)))) | (with_reducible first | apply Tr.next | apply Tr.seq | apply Tr.region | apply Tr.nil | apply Tr.exit | apply Tr.ret | apply Tr.then_exit) | ((with_reducible refine Tr.in_exit ?_ ?_); (exact rfl)) | (refine Tr.cond_f rfl (by first | (with_reducible assumption) | omega) ?_)))
  refine Tr.doneB (A' := [ownS 3 1 A3 k.reqs.length c3 (intV (beginF k).nd), ownS 3 1 A4 k.reqs.length c4 (intV (fxB k).due), ownS 3 1 A5 k.reqs.length c5 (intV (beginF k).br), ownS 3 1 A1 k.sups.length c1 (intV (beginF k).am), ownS 3 1 A2 k.sups.length c2 (intV (beginF k).dy)]) [box _ 64 _, box _ 27 _] (by first | exact .inl rfl | exact .inr rfl) rfl (by repeat (first | exact RVs.nil | (apply RVs.cons; (exact RV.cellW (by rfl) (tysOk.get (by rfl)) (by rfl) (by repeat (first | exact Has.here | apply Has.there)) (by first | rfl | assumption))))) (Mem.le.refl _) (perm52 _ _ _ _ _ _ _ _)
    ⟨rfl, Af, cf, A1, c1, A2, c2, A3, c3, A4, c4, A5, c5, rfl, h3, ⟨hc1, hc2, hc3, hc4, hc5⟩, rfl⟩
end Go.Proofs.Ytgnipfjjkliibaa

/-
  Honour: without.
  Conditions: none.
-/
namespace Go.Proofs.Ytgnipfjjkliibaa
open Go Bf
attribute [local irreducible] Tr Exec Stab HasTy Go.Addr.add IntKind.wrap
theorem steps_amt {x : Fx} : ∀ {l : List Hp} {s s' : St} {at_ : Nat}, stepsF x s at_ l = some s' → Fit x s → ∀ h ∈ l, h.kind ≠ 2 → 1 ≤ h.amt ∧ h.amt ≤ 1048576
  | [], s, s', at_, _, _, h, hh, _ => by cases hh
  | y :: l, s, s', at_, e, hf, h, hh, hk => by
    rw [stepsF] at e
    cases hs : stepF x s y at_ with
    | none => rw [hs] at e; cases e
    | some t =>
      rw [hs] at e
      have st := stepF_some.1 hs
      rcases List.mem_cons.1 hh with rfl | hh
      · cases st with
        | lose i k e1 e2 e3 e4 => have := getD_rng hf.amr i; omega
        | late i k => exact absurd k hk
        | ship i j k e1 f1 e2 f2 e3 e4 e5 e6 e7 e8 e9 => have := getD_rng hf.amr i; omega
      · exact steps_amt (l := l) e (st.keep hf).1 h hh hk
theorem run_amt {k : Bk} {l : List Hp} {s : St} (h : runF k l = some s) : ∀ z ∈ l, z.kind ≠ 2 → 1 ≤ z.amt ∧ z.amt ≤ 1048576 := by
  obtain ⟨hv, hs⟩ := run_steps h
  exact steps_amt hs (begin_fit hv.1)
theorem foldl_take {α β : Type} (f : β → α → β) (l : List α) (s : β) {i : Nat} {y : α} (h : l[i]? = some y) : (l.take (i + 1)).foldl f s = f ((l.take i).foldl f s) y := by
  rw [List.take_add_one, h, List.foldl_append]; rfl
theorem map_take1 {α β : Type} (f : α → β) {l : List α} {i : Nat} {y : α} (h : l[i]? = some y) : (l.map f)[i]? = some (f y) := by simp [h]
theorem shipF_at {s : St} {i q : Nat} {a u day amt : Int} (ha : s.am[i]? = some a) (hu : s.nd[q]? = some u) : shipF s ⟨3, (i : Int), (q : Int), day, amt⟩ = { s with am := s.am.set i (a - amt), nd := s.nd.set q (u - amt) } := by
  rw [shipF, if_pos rfl]
  show (⟨s.am.set (i : Int).toNat (s.am.getD (i : Int).toNat 0 - amt), s.dy, s.nd.set (q : Int).toNat (s.nd.getD (q : Int).toNat 0 - amt), s.br⟩ : St) = _
  rw [Int.toNat_natCast, Int.toNat_natCast, getD_of (d := (0 : Int)) ha, getD_of (d := (0 : Int)) hu]
theorem lossF_lose {s : St} {i : Nat} {a req day amt : Int} (ha : s.am[i]? = some a) : lossF s ⟨1, (i : Int), req, day, amt⟩ = { s with am := s.am.set i (a - amt) } := by
  rw [lossF, if_pos rfl]
  show (⟨s.am.set (i : Int).toNat (s.am.getD (i : Int).toNat 0 - amt), s.dy, s.nd, s.br⟩ : St) = _
  rw [Int.toNat_natCast, getD_of (d := (0 : Int)) ha]
theorem lossF_late {s : St} {i : Nat} {d kd req day amt : Int} (hk : kd ≠ 1) (hd : s.dy[i]? = some d) : lossF s ⟨kd, (i : Int), req, day, amt⟩ = { s with dy := s.dy.set i (max d day) } := by
  rw [lossF, if_neg (show ¬ kd = 1 from hk)]
  show (⟨s.am, s.dy.set (i : Int).toNat (max (s.dy.getD (i : Int).toNat 0) day), s.nd, s.br⟩ : St) = _
  rw [Int.toNat_natCast, getD_of (d := (0 : Int)) hd]
/-- numbers that some subtractions cannot bring out of range -/
def Rg (i : Nat) (l : List Int) : Prop := ∀ a ∈ l, -((i : Int) * 1048576) ≤ a ∧ a ≤ 1048576
theorem Rg.set {i : Nat} {l : List Int} (h : Rg i l) {a amt : Int} (ha : a ∈ l) (h1 : 1 ≤ amt ∧ amt ≤ 1048576) (q : Nat) : Rg (i + 1) (l.set q (a - amt)) := fun z hz => by
  have h2 := h a ha
  rcases List.mem_or_eq_of_mem_set hz with hz | rfl
  · have := h z hz; omega
  · omega
theorem Rg.next {i : Nat} {l : List Int} (h : Rg i l) : Rg (i + 1) l := fun z hz => by have := h z hz; omega
theorem brI_next {br : List Int} {n i j : Nat} {a : Int} (hn : br.length = n) (ha : br[i]? = some a) : ((brB br j).take i ++ List.replicate (n - i) (-1 : Int)).set i (if 0 ≤ a ∧ a < (j : Int) then a else -1) = (brB br j).take (i + 1) ++ List.replicate (n - (i + 1)) (-1) := by
  have hi := (List.getElem?_eq_some_iff.1 ha).1
  rw [set_mid _ _ _ _ _ (by rw [List.length_take, brB_length]; omega) (by omega)]
  congr 1
  rw [List.take_add_one]
  congr 1
  simp [brB, ha]
end Go.Proofs.Ytgnipfjjkliibaa

/-
  Honour: without.
  Conditions: none.
-/
namespace Go.Proofs.Ytgnipfjjkliibaa
open Go Bf
attribute [local irreducible] Tr Exec Stab HasTy Go.Addr.add IntKind.wrap
theorem nats__get {l : List Nat} {i t : Nat} (h : l[i]? = some t) : (nats_ l)[i]? = some (t : Int) := by simp [nats_, h]
set_option maxHeartbeats 16000000 in
theorem without_fn (M : Mem) (vb vs : Value) (k : Bk) (hB : RBk M vb k) (A : Option Addr) (c : Nat) (l : List Hp) (hl : SlOf 5 RHp M (.slice A l.length c) l) (s : St) (hS : RSt M vs (fxB k) s) (hrun : runF k l = some s) (j : Nat) (hj : j ≤ l.length)
    (Ai : Option Addr) (ci : Nat) (idx : List Nat) (hx : Ints M (.slice Ai idx.length ci) (nats_ idx)) (hidx : ∀ t ∈ idx, t < l.length ∧ (l.getD t zH).kind ≠ 3) (hll : l.length ≤ 1000) (hil : idx.length ≤ 1000) :
    Fn0 Try.prog 57 [vb, .slice A l.length c, vs, .int .i64 (j : Int), .slice Ai idx.length ci] M (fun r M' => RSt M' r (fxB k) (withF k l s.br j idx)) := by
  have hbe := hbegin_own M _ k hB
  obtain ⟨As, cs, Ar, cr, Af, cf, Ad, cd, rfl, h1, h2, h3⟩ := hB
  obtain ⟨Bf, kf, Ba, ka, Bd, kd, Bn, kn, Bu, ku, Bb, kb, rfl, q1, q2, q3, q4, q5, q6⟩ := hS
  obtain ⟨hfb, hfit, -⟩ := run_keep hrun
  have hfb2 := begin_fit hfb
  have hs64 := hfb.1
  have hr64 := hfb.2.1
  obtain ⟨n1, n2, n3, n4⟩ := run_len hrun
  obtain ⟨m1, m2, m3, m4⟩ := begin_len k
  have hok := run_ok hrun
  have hamt := run_amt hrun
  have hcl := hl.len_le
  obtain ⟨-, -, hlc, -⟩ := SlOf.cells hl
  have hjc : j ≤ c := Nat.le_trans hj hlc
  refine Fn.intro Try.func57 rfl rfl Try.ntmps57 rfl fun E F => ?_
  (repeat (first | ((with_reducible refine Tr.step rfl ?_); (first | ((with_reducible refine Knd.load ?_); (refine Exec.stab rfl (Stab.loadW rfl (tysOk.get rfl) rfl (by repeat (first | exact Has.here | apply Has.there)) rfl) rfl ?_)) | ((with_reducible refine Knd.box ?_); (refine Exec.box rfl rfl (fun b => ?_))) | ((with_reducible refine Knd.alloc ?_); (refine Exec.alloc (tysOk.get rfl) rfl rfl (fun b => ?_))))) | (with_reducible first | apply Tr.next | apply Tr.seq | apply Tr.region | apply Tr.nil)))
  generalize b = b10
  rename_i b5 b7
  ((refine Tr.step rfl ?_))
  refine Exec.call (A := []) rfl (hbe (by omega) (by omega)) (List.Perm.refl _) rfl ?_
  rintro _ _ _ - ⟨rfl, Af2, cf2, A1, c1, A2, c2, A3, c3, A4, c4, A5, c5, rfl, hff, ⟨hc1, hc2, hc3, hc4, hc5⟩, rfl⟩
  simp only [List.cons_append, List.nil_append]
  (repeat (first | ((with_reducible refine Tr.step rfl ?_); (first | ((with_reducible refine Knd.move ?_); (refine Exec.stab rfl (Stab.move rfl) rfl ?_)) | ((with_reducible refine Knd.len ?_); (refine Exec.stab rfl (Stab.len rfl (tysOk.get rfl) rfl) rfl ?_)) | ((with_reducible refine Knd.store ?_); (refine Exec.storeW rfl rfl (tysOk.get rfl) (by repeat (first | exact Upd.here | apply Upd.there)) rfl rfl (by repeat (first | exact AllOne.nil | refine AllOne.cons (by first | rfl | assumption) ?_)) ?_)) | ((with_reducible refine Knd.alloc ?_); (refine Exec.alloc (tysOk.get rfl) rfl rfl (fun b => ?_))) | ((with_reducible refine Knd.slice ?_); (refine Exec.stab rfl (Stab.slice_h rfl rfl (tysOk.get rfl) rfl (tysOk.get rfl) (by omega) (by omega)) rfl ?_)))) | (with_reducible first | apply Tr.next | apply Tr.seq | apply Tr.region | apply Tr.nil | apply Tr.block)))
  generalize b = b11
  rw [Int.toNat_natCast j]
  refine Tr.loop (α := Nat × St) (fun y => ⟨113, [(25, .int .i64 (y.1 : Int)), (24, .int .i64 (j : Int)), (23, .slice A j c), (11, .pointer (some ⟨b11, 0, none⟩)), (10, .pointer (some ⟨b10, 0, none⟩)), (7, .pointer (some ⟨b7, 0, none⟩)), (1, .slice A l.length c), (3, .int .i64 (j : Int)), (4, .slice Ai idx.length ci)], [], M,
      box b11 64 [.slice Af2 k.fits.length cf2, .slice A1 k.sups.length c1, .slice A2 k.sups.length c2, .slice A3 k.reqs.length c3, .slice A4 k.reqs.length c4, .slice A5 k.reqs.length c5] :: ownS 3 1 A3 k.reqs.length c3 (intV y.2.nd) :: ownS 3 1 A4 k.reqs.length c4 (intV (fxB k).due) :: ownS 3 1 A5 k.reqs.length c5 (intV (beginF k).br) :: ownS 3 1 A1 k.sups.length c1 (intV y.2.am) :: ownS 3 1 A2 k.sups.length c2 (intV (beginF k).dy) ::
      box b10 64 [.slice none 0 0, .slice none 0 0, .slice none 0 0, .slice none 0 0, .slice none 0 0, .slice none 0 0] :: box b7 64 [.slice Bf (fxB k).fits.length kf, .slice Ba s.am.length ka, .slice Bd s.dy.length kd, .slice Bn s.nd.length kn, .slice Bu (fxB k).due.length ku, .slice Bb s.br.length kb] :: box b5 27 [.int .i64 k.known, .slice As k.sups.length cs, .slice Ar k.reqs.length cr, .slice Af k.fits.length cf, .slice Ad k.reads cd] :: F⟩)
    (fun y => y.1 ≤ j ∧ y.2 = (l.take y.1).foldl shipF (beginF k) ∧ (y.2.am.length = k.sups.length ∧ y.2.nd.length = k.reqs.length) ∧ Rg y.1 y.2.am ∧ Rg y.1 y.2.nd) (fun y => j - y.1) (0, beginF k) ⟨Nat.zero_le _, rfl, ⟨m1, m2⟩, fun a ha => by have := hfb2.amr a ha; show -((0 : Int) * 1048576) ≤ a ∧ _; omega, fun a ha => by have := hfb2.ndr a ha; show -((0 : Int) * 1048576) ≤ a ∧ _; omega⟩ (holds_sub (by repeat (first | exact SubFr.nil | refine SubFr.cons rfl ?_)) (by repeat (first | exact DropL.refl | apply DropL.skip))) (fun y hy => ?_)
  obtain ⟨i, t⟩ := y
  obtain ⟨hi, ht, ⟨ht1, ht2⟩, ht3, ht4⟩ := hy
  dsimp only at hi ht ht1 ht2 ht3 ht4
  dsimp only
  by_cases hlt : i < j
  · obtain ⟨h, hh⟩ := get_of_lt (xs := l) (i := i) (by omega)
    have hokh := hok h (List.mem_of_getElem? hh)
    have hamth := hamt h (List.mem_of_getElem? hh)
    have hstep := foldl_take shipF l (beginF k) hh
    rw [← ht] at hstep
    obtain ⟨hA, ch, hat, rfl⟩ := hl.elem hh
    obtain ⟨kd, sup, req, day, amt⟩ := h
    obtain ⟨⟨o1, o2⟩, o3⟩ := hokh
    simp only at o1 o2 o3 hamth hat
    by_cases hk : kd = 3
    · subst hk
      have ho4 : 0 ≤ req ∧ req < (k.reqs.length : Int) := by rcases o3 with o | o | o <;> omega
      have hamt2 := hamth (by omega)
      obtain ⟨u, rfl⟩ : ∃ u : Nat, sup = (u : Int) := ⟨sup.toNat, by omega⟩
      obtain ⟨q, rfl⟩ : ∃ q : Nat, req = (q : Int) := ⟨req.toNat, by omega⟩
      obtain ⟨a, ha⟩ := get_of_lt (xs := t.am) (i := u) (by omega)
      obtain ⟨n, hn⟩ := get_of_lt (xs := t.nd) (i := q) (by omega)
      have hra := ht3 a (List.mem_of_getElem? ha)
      have hrn := ht4 n (List.mem_of_getElem? hn)
      have hav : (intV t.am)[(u : Int).toNat]? = some (.int .i64 a) := by rw [Int.toNat_natCast]; exact intV_get ha
      have hnv : (intV t.nd)[(q : Int).toNat]? = some (.int .i64 n) := by rw [Int.toNat_natCast]; exact intV_get hn
      rw [shipF_at ha hn] at hstep
      refine Tr.own_some A1 (e := 3) (sz := 1) (m := k.sups.length) (c := c1) (xs := intV t.am) (by repeat (first | exact Has.here | apply Has.there)) (by omega) (fun hA1 => ?_)
      refine Tr.own_some A3 (e := 3) (sz := 1) (m := k.reqs.length) (c := c3) (xs := intV t.nd) (by repeat (first | exact Has.here | apply Has.there)) (by omega) (fun hA3 => ?_)
      (repeat (first | ((with_reducible refine Tr.step rfl ?_); (first | ((with_reducible refine Knd.load ?_); (first | (refine Exec.stab rfl (Stab.load rfl (tysOk.get rfl) rfl (by repeat (first | exact Has.here | apply Has.there)) rfl) rfl ?_) | (refine Exec.stab rfl (Stab.loadMA rfl (tysOk.get rfl) rfl (by assumption) (by first | rfl | assumption)) rfl ?_))) | ((with_reducible refine Knd.fieldAddr ?_); (refine Exec.stab rfl (Stab.fieldZ rfl (tysOk.get rfl) rfl rfl (tysOk.get rfl) rfl) rfl ?_)) | ((with_reducible refine Knd.binOp ?_); (refine Exec.stab rfl (Stab.int rfl rfl rfl) rfl ?_)) | ((with_reducible refine Knd.store ?_); (refine Exec.storeW rfl rfl (tysOk.get rfl) (by repeat (first | exact Upd.here | apply Upd.there)) rfl rfl (by repeat (first | exact AllOne.nil | refine AllOne.cons (by first | rfl | assumption) ?_)) ?_)) | ((with_reducible refine Knd.alloc ?_); (refine Exec.alloc (tysOk.get rfl) rfl rfl (fun b => ?_))) | ((with_reducible refine Knd.indexAddr ?_); (refine Exec.stab rfl (Stab.indexAddr rfl rfl (tysOk.get rfl) rfl (tysOk.get rfl) rfl (by omega) (by omega) (by first | rfl | assumption)) rfl ?_)))) | (with_reducible first | apply Tr.next | apply Tr.seq | apply Tr.region | apply Tr.nil | apply Tr.skip | apply Tr.block) | (refine Tr.cond_t rfl (by first | (with_reducible assumption) | (with_reducible rfl) | omega) ?_)))
      (((apply Tr.draw); (kernel_rfl)); (refine TrA.take 0 (by kernel_rfl) rfl (by kernel_rfl) (by exact fun _ _ _ h => h) (by exact fun _ h => h) rfl (by exact Stab.fieldZ rfl (tysOk.get rfl) rfl rfl (tysOk.get rfl) rfl) rfl rfl ?_); (refine TrA.take 2 (by kernel_rfl) rfl (by kernel_rfl) (by exact fun _ _ _ h => h) (by exact fun _ h => h) rfl (by exact Stab.fieldZ rfl (tysOk.get rfl) rfl rfl (tysOk.get rfl) rfl) rfl rfl ?_); (refine TrA.take 6 (by kernel_rfl) rfl (by kernel_rfl) (by exact fun _ _ _ h => h) (by exact fun _ h => h) rfl (by exact Stab.fieldZ rfl (tysOk.get rfl) rfl rfl (tysOk.get rfl) rfl) rfl rfl ?_); (refine TrA.take 1 (by kernel_rfl) rfl (by kernel_rfl) (by exact fun _ _ _ h => h) (by exact fun _ h => h) rfl (by exact Stab.load rfl (tysOk.get rfl) rfl (by repeat (first | exact Has.here | apply Has.there)) rfl) rfl rfl ?_); (refine TrA.take 3 (by kernel_rfl) rfl (by kernel_rfl) (by exact fun _ _ _ h => h) (by exact fun _ h => h) rfl (by exact Stab.load rfl (tysOk.get rfl) rfl (by repeat (first | exact Has.here | apply Has.there)) rfl) rfl rfl ?_); (refine TrA.take 7 (by kernel_rfl) rfl (by kernel_rfl) (by exact fun _ _ _ h => h) (by exact fun _ h => h) rfl (by exact Stab.load rfl (tysOk.get rfl) rfl (by repeat (first | exact Has.here | apply Has.there)) rfl) rfl rfl ?_); (refine TrA.take 4 (by kernel_rfl) rfl (by kernel_rfl) (by exact fun _ _ _ h => h) (by exact fun _ h => h) rfl (by exact Stab.indexAddr rfl rfl (tysOk.get rfl) rfl (tysOk.get rfl) rfl (by omega) (by omega) (by first | rfl | assumption)) rfl rfl ?_); (refine TrA.take 5 (by kernel_rfl) rfl (by kernel_rfl) (by exact fun _ _ _ h => h) (by exact fun _ h => h) rfl (by exact Stab.loadO rfl (tysOk.get rfl) rfl (by repeat (first | exact Has.here | apply Has.there)) (by assumption)) rfl rfl ?_); (refine TrA.take 8 (by kernel_rfl) rfl (by kernel_rfl) (by exact fun _ _ _ h => h) (by exact fun _ h => h) rfl (by exact Stab.subi rfl rfl (by omega)) rfl rfl ?_); (refine TrA.take 9 (by kernel_rfl) rfl (by kernel_rfl) (by exact fun _ _ _ h => h) (by exact fun _ h => h) rfl (by exact Stab.indexAddr rfl rfl (tysOk.get rfl) rfl (tysOk.get rfl) rfl (by omega) (by omega) (by first | rfl | assumption)) rfl rfl ?_); (refine TrA.effD 10 rfl (by kernel_rfl) (by kernel_rfl) (by exact .inl rfl) ?_); (((refine Knd.store ?_); ((refine Exec.storeO rfl rfl (tysOk.get rfl) rfl (by first | rfl | assumption) (by repeat (first | exact Upd.here | apply Upd.there)) (by omega) ?_)))); (refine ⟨_, fun _ h => h, ?_⟩); (refine TrA.done (by kernel_rfl) ?_))
      rw [Int.toNat_natCast u, intV_set]
      (repeat ((with_reducible refine Tr.next ?_)))
      (((apply Tr.draw); (kernel_rfl)); (refine TrA.take 0 (by kernel_rfl) rfl (by kernel_rfl) (by exact fun _ _ _ h => h) (by exact fun _ h => h) rfl (by exact Stab.fieldZ rfl (tysOk.get rfl) rfl rfl (tysOk.get rfl) rfl) rfl rfl ?_); (refine TrA.take 2 (by kernel_rfl) rfl (by kernel_rfl) (by exact fun _ _ _ h => h) (by exact fun _ h => h) rfl (by exact Stab.fieldZ rfl (tysOk.get rfl) rfl rfl (tysOk.get rfl) rfl) rfl rfl ?_); (refine TrA.take 6 (by kernel_rfl) rfl (by kernel_rfl) (by exact fun _ _ _ h => h) (by exact fun _ h => h) rfl (by exact Stab.fieldZ rfl (tysOk.get rfl) rfl rfl (tysOk.get rfl) rfl) rfl rfl ?_); (refine TrA.take 1 (by kernel_rfl) rfl (by kernel_rfl) (by exact fun _ _ _ h => h) (by exact fun _ h => h) rfl (by exact Stab.load rfl (tysOk.get rfl) rfl (by repeat (first | exact Has.here | apply Has.there)) rfl) rfl rfl ?_); (refine TrA.take 3 (by kernel_rfl) rfl (by kernel_rfl) (by exact fun _ _ _ h => h) (by exact fun _ h => h) rfl (by exact Stab.load rfl (tysOk.get rfl) rfl (by repeat (first | exact Has.here | apply Has.there)) rfl) rfl rfl ?_); (refine TrA.take 7 (by kernel_rfl) rfl (by kernel_rfl) (by exact fun _ _ _ h => h) (by exact fun _ h => h) rfl (by exact Stab.load rfl (tysOk.get rfl) rfl (by repeat (first | exact Has.here | apply Has.there)) rfl) rfl rfl ?_); (refine TrA.take 4 (by kernel_rfl) rfl (by kernel_rfl) (by exact fun _ _ _ h => h) (by exact fun _ h => h) rfl (by exact Stab.indexAddr rfl rfl (tysOk.get rfl) rfl (tysOk.get rfl) rfl (by omega) (by omega) (by first | rfl | assumption)) rfl rfl ?_); (refine TrA.take 5 (by kernel_rfl) rfl (by kernel_rfl) (by exact fun _ _ _ h => h) (by exact fun _ h => h) rfl (by exact Stab.loadO rfl (tysOk.get rfl) rfl (by repeat (first | exact Has.here | apply Has.there)) (by assumption)) rfl rfl ?_); (refine TrA.take 8 (by kernel_rfl) rfl (by kernel_rfl) (by exact fun _ _ _ h => h) (by exact fun _ h => h) rfl (by exact Stab.subi rfl rfl (by omega)) rfl rfl ?_); (refine TrA.take 9 (by kernel_rfl) rfl (by kernel_rfl) (by exact fun _ _ _ h => h) (by exact fun _ h => h) rfl (by exact Stab.indexAddr rfl rfl (tysOk.get rfl) rfl (tysOk.get rfl) rfl (by omega) (by omega) (by first | rfl | assumption)) rfl rfl ?_); (refine TrA.effD 10 rfl (by kernel_rfl) (by kernel_rfl) (by exact .inl rfl) ?_); (((refine Knd.store ?_); ((refine Exec.storeO rfl rfl (tysOk.get rfl) rfl (by first | rfl | assumption) (by repeat (first | exact Upd.here | apply Upd.there)) (by omega) ?_)))); (refine ⟨_, fun _ h => h, ?_⟩); (refine TrA.done (by kernel_rfl) ?_))
      rw [Int.toNat_natCast q, intV_set]
      (repeat (first | ((with_reducible refine Tr.step rfl ?_); (first | ((with_reducible refine Knd.move ?_); (refine Exec.stab rfl (Stab.move rfl) rfl ?_)) | ((with_reducible refine Knd.binOp ?_); (refine Exec.stab rfl (Stab.addi rfl rfl (by omega)) rfl ?_)))) | (with_reducible first | apply Tr.next | apply Tr.region | apply Tr.nil | apply Tr.in_normal)))
      refine Tr.give (r := box b _ _) (by repeat (first | exact Del.here | apply Del.there)) ?_
      exact Tr.again (i + 1, { t with am := t.am.set u (a - amt), nd := t.nd.set q (n - amt) }) ⟨by simp only; omega, hstep.symm, ⟨by simp only [List.length_set]; omega, by simp only [List.length_set]; omega⟩, ht3.set (List.mem_of_getElem? ha) hamt2 u, ht4.set (List.mem_of_getElem? hn) hamt2 q⟩ (by simp only; omega) (holds_sub (by repeat (first | exact SubFr.nil | refine SubFr.cons rfl ?_)) (by repeat (first | exact DropL.refl | apply DropL.skip)))
    · rw [shipF, if_neg (show ¬ kd = 3 from hk)] at hstep
      (repeat (first | ((with_reducible refine Tr.step rfl ?_); (first | ((with_reducible refine Knd.move ?_); (refine Exec.stab rfl (Stab.move rfl) rfl ?_)) | ((with_reducible refine Knd.load ?_); (first | (refine Exec.stab rfl (Stab.load rfl (tysOk.get rfl) rfl (by repeat (first | exact Has.here | apply Has.there)) rfl) rfl ?_) | (refine Exec.stab rfl (Stab.loadMA rfl (tysOk.get rfl) rfl (by assumption) (by first | rfl | assumption)) rfl ?_))) | ((with_reducible refine Knd.fieldAddr ?_); (refine Exec.stab rfl (Stab.fieldZ rfl (tysOk.get rfl) rfl rfl (tysOk.get rfl) rfl) rfl ?_)) | ((with_reducible refine Knd.binOp ?_); (first | (refine Exec.stab rfl (Stab.addi rfl rfl (by omega)) rfl ?_) | (refine Exec.stab rfl (Stab.int rfl rfl rfl) rfl ?_))) | ((with_reducible refine Knd.store ?_); (refine Exec.storeW rfl rfl (tysOk.get rfl) (by repeat (first | exact Upd.here | apply Upd.there)) rfl rfl (by repeat (first | exact AllOne.nil | refine AllOne.cons (by first | rfl | assumption) ?_)) ?_)) | ((with_reducible refine Knd.alloc ?_); (refine Exec.alloc (tysOk.get rfl) rfl rfl (fun b => ?_))) | ((with_reducible refine Knd.indexAddr ?_); (refine Exec.stab rfl (Stab.indexAddr rfl rfl (tysOk.get rfl) rfl (tysOk.get rfl) rfl (by omega) (by omega) (by first | rfl | assumption)) rfl ?_)))) | (with_reducible first | apply Tr.next | apply Tr.seq | apply Tr.region | apply Tr.nil | apply Tr.skip | apply Tr.block | apply Tr.in_normal) | (refine Tr.cond_t rfl (by first | (with_reducible assumption) | omega) ?_) | (refine Tr.cond_f rfl (by (with_reducible assumption)) ?_)))
      refine Tr.give (r := box b _ _) (by repeat (first | exact Del.here | apply Del.there)) ?_
      exact Tr.again (i + 1, t) ⟨by simp only; omega, hstep.symm, ⟨ht1, ht2⟩, ht3.next, ht4.next⟩ (by simp only; omega) (holds_sub (by repeat (first | exact SubFr.nil | refine SubFr.cons rfl ?_)) (by repeat (first | exact DropL.refl | apply DropL.skip)))
  have ei : j = i := by omega
  subst ei
  (repeat (first | ((with_reducible refine Tr.step rfl ?_); (first | ((with_reducible refine Knd.move ?_); (refine Exec.stab rfl (Stab.move rfl) rfl ?_)) | ((with_reducible refine Knd.len ?_); (refine Exec.stab rfl (Stab.len rfl (tysOk.get rfl) rfl) rfl ?_)) | ((with_reducible refine Knd.binOp ?_); (refine Exec.stab rfl (Stab.int rfl rfl rfl) rfl ?_)))) | (with_reducible first | apply Tr.next | apply Tr.seq | apply Tr.region | apply Tr.nil | apply Tr.block | apply Tr.exit | apply Tr.then_exit) | ((with_reducible refine Tr.in_exit ?_ ?_); (exact rfl)) | (refine Tr.cond_f rfl (by first | (with_reducible assumption) | omega) ?_)))
  clear hi
  have htd : t.dy = (beginF k).dy := by rw [ht]; exact (ships_eff (l.take j) (beginF k) (fun z hz => by rw [m1, m2]; exact hok z (List.mem_of_mem_take hz))).2.1
  rw [← htd]
  refine Tr.loop (α := Nat × St) (fun y => ⟨113, [(55, .int .i64 (y.1 : Int)), (54, .int .i64 (idx.length : Int)), (53, .slice Ai idx.length ci), (11, .pointer (some ⟨b11, 0, none⟩)), (10, .pointer (some ⟨b10, 0, none⟩)), (7, .pointer (some ⟨b7, 0, none⟩)), (1, .slice A l.length c), (3, .int .i64 (j : Int)), (4, .slice Ai idx.length ci)], [], M,
      box b11 64 [.slice Af2 k.fits.length cf2, .slice A1 k.sups.length c1, .slice A2 k.sups.length c2, .slice A3 k.reqs.length c3, .slice A4 k.reqs.length c4, .slice A5 k.reqs.length c5] :: ownS 3 1 A3 k.reqs.length c3 (intV t.nd) :: ownS 3 1 A4 k.reqs.length c4 (intV (fxB k).due) :: ownS 3 1 A5 k.reqs.length c5 (intV (beginF k).br) :: ownS 3 1 A1 k.sups.length c1 (intV y.2.am) :: ownS 3 1 A2 k.sups.length c2 (intV y.2.dy) ::
      box b10 64 [.slice none 0 0, .slice none 0 0, .slice none 0 0, .slice none 0 0, .slice none 0 0, .slice none 0 0] :: box b7 64 [.slice Bf (fxB k).fits.length kf, .slice Ba s.am.length ka, .slice Bd s.dy.length kd, .slice Bn s.nd.length kn, .slice Bu (fxB k).due.length ku, .slice Bb s.br.length kb] :: box b5 27 [.int .i64 k.known, .slice As k.sups.length cs, .slice Ar k.reqs.length cr, .slice Af k.fits.length cf, .slice Ad k.reads cd] :: F⟩)
    (fun y => y.1 ≤ idx.length ∧ y.2 = ((idx.map fun u => l.getD u zH).take y.1).foldl lossF t ∧ (y.2.am.length = k.sups.length ∧ y.2.dy.length = k.sups.length ∧ y.2.nd = t.nd) ∧ Rg (j + y.1) y.2.am) (fun y => idx.length - y.1) (0, t) ⟨Nat.zero_le _, rfl, ⟨ht1, by show t.dy.length = _; rw [htd]; exact m3, rfl⟩, ht3⟩ (holds_sub (by repeat (first | exact SubFr.nil | refine SubFr.cons rfl ?_)) (by repeat (first | exact DropL.refl | apply DropL.skip))) (fun y hy => ?_)
  obtain ⟨i, t2⟩ := y
  obtain ⟨hi, he, ⟨he1, he2, he4⟩, he3⟩ := hy
  dsimp only at hi he he1 he2 he3 he4
  dsimp only
  by_cases hlt2 : i < idx.length
  · obtain ⟨w, hw⟩ := get_of_lt (xs := idx) (i := i) (by omega)
    obtain ⟨hwl, hw3⟩ := hidx w (List.mem_of_getElem? hw)
    obtain ⟨h, hh⟩ := get_of_lt (xs := l) (i := w) hwl
    rw [getD_of (d := zH) hh] at hw3
    have hokh := hok h (List.mem_of_getElem? hh)
    have hamth := hamt h (List.mem_of_getElem? hh)
    have hstep := foldl_take lossF (idx.map fun u => l.getD u zH) t (map_take1 (fun u => l.getD u zH) hw)
    rw [← he, getD_of (d := zH) hh] at hstep
    obtain ⟨hAx, hatx⟩ := Ints.at hx (nats__get hw)
    obtain ⟨hA, ch, hat, rfl⟩ := hl.elem hh
    obtain ⟨kd, sup, req, day, amt⟩ := h
    obtain ⟨⟨o1, o2⟩, o3⟩ := hokh
    simp only at o1 o2 o3 hamth hat hw3
    obtain ⟨u, rfl⟩ : ∃ u : Nat, sup = (u : Int) := ⟨sup.toNat, by omega⟩
    obtain ⟨a, ha⟩ := get_of_lt (xs := t2.am) (i := u) (by omega)
    obtain ⟨n, hn⟩ := get_of_lt (xs := t2.dy) (i := u) (by omega)
    have hra := he3 a (List.mem_of_getElem? ha)
    have hav : (intV t2.am)[(u : Int).toNat]? = some (.int .i64 a) := by rw [Int.toNat_natCast]; exact intV_get ha
    have hnv : (intV t2.dy)[(u : Int).toNat]? = some (.int .i64 n) := by rw [Int.toNat_natCast]; exact intV_get hn
    refine Tr.own_some A1 (e := 3) (sz := 1) (m := k.sups.length) (c := c1) (xs := intV t2.am) (by repeat (first | exact Has.here | apply Has.there)) (by omega) (fun hA1 => ?_)
    refine Tr.own_some A2 (e := 3) (sz := 1) (m := k.sups.length) (c := c2) (xs := intV t2.dy) (by repeat (first | exact Has.here | apply Has.there)) (by omega) (fun hA3 => ?_)
    by_cases hk : kd = 1
    · subst hk
      have hamt2 := hamth (by omega)
      rw [lossF_lose ha] at hstep
      (repeat (first | ((with_reducible refine Tr.step rfl ?_); (first | ((with_reducible refine Knd.move ?_); (refine Exec.stab rfl (Stab.move rfl) rfl ?_)) | ((with_reducible refine Knd.assign ?_); (refine Exec.stab rfl (Stab.assign rfl) rfl ?_)) | ((with_reducible refine Knd.load ?_); (first | (refine Exec.stab rfl (Stab.load rfl (tysOk.get rfl) rfl (by repeat (first | exact Has.here | apply Has.there)) rfl) rfl ?_) | (refine Exec.stab rfl (Stab.loadM rfl (tysOk.get rfl) rfl (by assumption)) rfl ?_) | (refine Exec.stab rfl (Stab.loadMA rfl (tysOk.get rfl) rfl (by assumption) (by first | rfl | assumption)) rfl ?_))) | ((with_reducible refine Knd.fieldAddr ?_); (refine Exec.stab rfl (Stab.fieldZ rfl (tysOk.get rfl) rfl rfl (tysOk.get rfl) rfl) rfl ?_)) | ((with_reducible refine Knd.binOp ?_); (refine Exec.stab rfl (Stab.int rfl rfl rfl) rfl ?_)) | ((with_reducible refine Knd.store ?_); (refine Exec.storeW rfl rfl (tysOk.get rfl) (by repeat (first | exact Upd.here | apply Upd.there)) rfl rfl (by repeat (first | exact AllOne.nil | refine AllOne.cons (by first | rfl | assumption) ?_)) ?_)) | ((with_reducible refine Knd.alloc ?_); (refine Exec.alloc (tysOk.get rfl) rfl rfl (fun b => ?_))) | ((with_reducible refine Knd.indexAddr ?_); (refine Exec.stab rfl (Stab.indexAddr rfl rfl (tysOk.get rfl) rfl (tysOk.get rfl) rfl (by omega) (by omega) (by first | rfl | assumption)) rfl ?_)))) | (with_reducible first | apply Tr.next | apply Tr.seq | apply Tr.region | apply Tr.nil | apply Tr.skip | apply Tr.block) | (refine Tr.cond_t rfl (by first | (with_reducible assumption) | (with_reducible rfl) | omega) ?_)))
      (((apply Tr.draw); (kernel_rfl)); (refine TrA.take 0 (by kernel_rfl) rfl (by kernel_rfl) (by exact fun _ _ _ h => h) (by exact fun _ h => h) rfl (by exact Stab.fieldZ rfl (tysOk.get rfl) rfl rfl (tysOk.get rfl) rfl) rfl rfl ?_); (refine TrA.take 2 (by kernel_rfl) rfl (by kernel_rfl) (by exact fun _ _ _ h => h) (by exact fun _ h => h) rfl (by exact Stab.fieldZ rfl (tysOk.get rfl) rfl rfl (tysOk.get rfl) rfl) rfl rfl ?_); (refine TrA.take 6 (by kernel_rfl) rfl (by kernel_rfl) (by exact fun _ _ _ h => h) (by exact fun _ h => h) rfl (by exact Stab.fieldZ rfl (tysOk.get rfl) rfl rfl (tysOk.get rfl) rfl) rfl rfl ?_); (refine TrA.take 1 (by kernel_rfl) rfl (by kernel_rfl) (by exact fun _ _ _ h => h) (by exact fun _ h => h) rfl (by exact Stab.load rfl (tysOk.get rfl) rfl (by repeat (first | exact Has.here | apply Has.there)) rfl) rfl rfl ?_); (refine TrA.take 3 (by kernel_rfl) rfl (by kernel_rfl) (by exact fun _ _ _ h => h) (by exact fun _ h => h) rfl (by exact Stab.load rfl (tysOk.get rfl) rfl (by repeat (first | exact Has.here | apply Has.there)) rfl) rfl rfl ?_); (refine TrA.take 7 (by kernel_rfl) rfl (by kernel_rfl) (by exact fun _ _ _ h => h) (by exact fun _ h => h) rfl (by exact Stab.load rfl (tysOk.get rfl) rfl (by repeat (first | exact Has.here | apply Has.there)) rfl) rfl rfl ?_); (refine TrA.take 4 (by kernel_rfl) rfl (by kernel_rfl) (by exact fun _ _ _ h => h) (by exact fun _ h => h) rfl (by exact Stab.indexAddr rfl rfl (tysOk.get rfl) rfl (tysOk.get rfl) rfl (by omega) (by omega) (by first | rfl | assumption)) rfl rfl ?_); (refine TrA.take 5 (by kernel_rfl) rfl (by kernel_rfl) (by exact fun _ _ _ h => h) (by exact fun _ h => h) rfl (by exact Stab.loadO rfl (tysOk.get rfl) rfl (by repeat (first | exact Has.here | apply Has.there)) (by assumption)) rfl rfl ?_); (refine TrA.take 8 (by kernel_rfl) rfl (by kernel_rfl) (by exact fun _ _ _ h => h) (by exact fun _ h => h) rfl (by exact Stab.subi rfl rfl (by omega)) rfl rfl ?_); (refine TrA.take 9 (by kernel_rfl) rfl (by kernel_rfl) (by exact fun _ _ _ h => h) (by exact fun _ h => h) rfl (by exact Stab.indexAddr rfl rfl (tysOk.get rfl) rfl (tysOk.get rfl) rfl (by omega) (by omega) (by first | rfl | assumption)) rfl rfl ?_); (refine TrA.effD 10 rfl (by kernel_rfl) (by kernel_rfl) (by exact .inl rfl) ?_); (((refine Knd.store ?_); ((refine Exec.storeO rfl rfl (tysOk.get rfl) rfl (by first | rfl | assumption) (by repeat (first | exact Upd.here | apply Upd.there)) (by omega) ?_)))); (refine ⟨_, fun _ h => h, ?_⟩); (refine TrA.done (by kernel_rfl) ?_))
      rw [Int.toNat_natCast u, intV_set]
      (repeat (first | ((with_reducible refine Tr.step rfl ?_); (first | ((with_reducible refine Knd.move ?_); (refine Exec.stab rfl (Stab.move rfl) rfl ?_)) | ((with_reducible refine Knd.binOp ?_); (refine Exec.stab rfl (Stab.addi rfl rfl (by omega)) rfl ?_)))) | (with_reducible first | apply Tr.next | apply Tr.region | apply Tr.nil | apply Tr.in_normal)))
      refine Tr.give (r := box b _ _) (by repeat (first | exact Del.here | apply Del.there)) ?_
      exact Tr.again (i + 1, { t2 with am := t2.am.set u (a - amt) }) ⟨by simp only; omega, hstep.symm, ⟨by simp only [List.length_set]; omega, he2, he4⟩, by have := he3.set (List.mem_of_getElem? ha) hamt2 u; exact this⟩ (by simp only; omega) (holds_sub (by repeat (first | exact SubFr.nil | refine SubFr.cons rfl ?_)) (by repeat (first | exact DropL.refl | apply DropL.skip)))
    · rw [lossF_late hk hn] at hstep
      (repeat (first | ((with_reducible refine Tr.step rfl ?_); (first | ((with_reducible refine Knd.move ?_); (refine Exec.stab rfl (Stab.move rfl) rfl ?_)) | ((with_reducible refine Knd.assign ?_); (refine Exec.stab rfl (Stab.assign rfl) rfl ?_)) | ((with_reducible refine Knd.load ?_); (first | (refine Exec.stab rfl (Stab.load rfl (tysOk.get rfl) rfl (by repeat (first | exact Has.here | apply Has.there)) rfl) rfl ?_) | (refine Exec.stab rfl (Stab.loadM rfl (tysOk.get rfl) rfl (by assumption)) rfl ?_) | (refine Exec.stab rfl (Stab.loadMA rfl (tysOk.get rfl) rfl (by assumption) (by first | rfl | assumption)) rfl ?_))) | ((with_reducible refine Knd.fieldAddr ?_); (refine Exec.stab rfl (Stab.fieldZ rfl (tysOk.get rfl) rfl rfl (tysOk.get rfl) rfl) rfl ?_)) | ((with_reducible refine Knd.binOp ?_); (refine Exec.stab rfl (Stab.int rfl rfl rfl) rfl ?_)) | ((with_reducible refine Knd.store ?_); (refine Exec.storeW rfl rfl (tysOk.get rfl) (by repeat (first | exact Upd.here | apply Upd.there)) rfl rfl (by repeat (first | exact AllOne.nil | refine AllOne.cons (by first | rfl | assumption) ?_)) ?_)) | ((with_reducible refine Knd.alloc ?_); (refine Exec.alloc (tysOk.get rfl) rfl rfl (fun b => ?_))) | ((with_reducible refine Knd.indexAddr ?_); (refine Exec.stab rfl (Stab.indexAddr rfl rfl (tysOk.get rfl) rfl (tysOk.get rfl) rfl (by omega) (by omega) (by first | rfl | assumption)) rfl ?_)))) | (with_reducible first | apply Tr.next | apply Tr.seq | apply Tr.region | apply Tr.nil | apply Tr.skip | apply Tr.block) | (refine Tr.cond_t rfl (by first | (with_reducible assumption) | omega) ?_) | (refine Tr.cond_f rfl (by (with_reducible assumption)) ?_)))
      (((apply Tr.draw); (kernel_rfl)); (refine TrA.take 0 (by kernel_rfl) rfl (by kernel_rfl) (by exact fun _ _ _ h => h) (by exact fun _ h => h) rfl (by exact Stab.fieldZ rfl (tysOk.get rfl) rfl rfl (tysOk.get rfl) rfl) rfl rfl ?_); (refine TrA.take 2 (by kernel_rfl) rfl (by kernel_rfl) (by exact fun _ _ _ h => h) (by exact fun _ h => h) rfl (by exact Stab.fieldZ rfl (tysOk.get rfl) rfl rfl (tysOk.get rfl) rfl) rfl rfl ?_); (refine TrA.take 4 (by kernel_rfl) rfl (by kernel_rfl) (by exact fun _ _ _ h => h) (by exact fun _ h => h) rfl (by exact Stab.fieldZ rfl (tysOk.get rfl) rfl rfl (tysOk.get rfl) rfl) rfl rfl ?_); (refine TrA.take 6 (by kernel_rfl) rfl (by kernel_rfl) (by exact fun _ _ _ h => h) (by exact fun _ h => h) rfl (by exact Stab.fieldZ rfl (tysOk.get rfl) rfl rfl (tysOk.get rfl) rfl) rfl rfl ?_); (refine TrA.take 10 (by kernel_rfl) rfl (by kernel_rfl) (by exact fun _ _ _ h => h) (by exact fun _ h => h) rfl (by exact Stab.fieldZ rfl (tysOk.get rfl) rfl rfl (tysOk.get rfl) rfl) rfl rfl ?_); (refine TrA.take 1 (by kernel_rfl) rfl (by kernel_rfl) (by exact fun _ _ _ h => h) (by exact fun _ h => h) rfl (by exact Stab.load rfl (tysOk.get rfl) rfl (by repeat (first | exact Has.here | apply Has.there)) rfl) rfl rfl ?_); (refine TrA.take 3 (by kernel_rfl) rfl (by kernel_rfl) (by exact fun _ _ _ h => h) (by exact fun _ h => h) rfl (by exact Stab.load rfl (tysOk.get rfl) rfl (by repeat (first | exact Has.here | apply Has.there)) rfl) rfl rfl ?_); (refine TrA.take 5 (by kernel_rfl) rfl (by kernel_rfl) (by exact fun _ _ _ h => h) (by exact fun _ h => h) rfl (by exact Stab.load rfl (tysOk.get rfl) rfl (by repeat (first | exact Has.here | apply Has.there)) rfl) rfl rfl ?_); (refine TrA.take 7 (by kernel_rfl) rfl (by kernel_rfl) (by exact fun _ _ _ h => h) (by exact fun _ h => h) rfl (by exact Stab.load rfl (tysOk.get rfl) rfl (by repeat (first | exact Has.here | apply Has.there)) rfl) rfl rfl ?_); (refine TrA.take 11 (by kernel_rfl) rfl (by kernel_rfl) (by exact fun _ _ _ h => h) (by exact fun _ h => h) rfl (by exact Stab.load rfl (tysOk.get rfl) rfl (by repeat (first | exact Has.here | apply Has.there)) rfl) rfl rfl ?_); (refine TrA.take 8 (by kernel_rfl) rfl (by kernel_rfl) (by exact fun _ _ _ h => h) (by exact fun _ h => h) rfl (by exact Stab.indexAddr rfl rfl (tysOk.get rfl) rfl (tysOk.get rfl) rfl (by omega) (by omega) (by first | rfl | assumption)) rfl rfl ?_); (refine TrA.take 9 (by kernel_rfl) rfl (by kernel_rfl) (by exact fun _ _ _ h => h) (by exact fun _ h => h) rfl (by exact Stab.loadO rfl (tysOk.get rfl) rfl (by repeat (first | exact Has.here | apply Has.there)) (by assumption)) rfl rfl ?_); (refine TrA.take 12 (by kernel_rfl) rfl (by kernel_rfl) (by exact fun _ _ _ h => h) (by exact fun _ h => h) rfl (by first | exact Stab.max2 rfl rfl) rfl rfl ?_); (refine TrA.take 13 (by kernel_rfl) rfl (by kernel_rfl) (by exact fun _ _ _ h => h) (by exact fun _ h => h) rfl (by exact Stab.indexAddr rfl rfl (tysOk.get rfl) rfl (tysOk.get rfl) rfl (by omega) (by omega) (by first | rfl | assumption)) rfl rfl ?_); (refine TrA.effD 14 rfl (by kernel_rfl) (by kernel_rfl) (by exact .inl rfl) ?_); (((refine Knd.store ?_); ((refine Exec.storeO rfl rfl (tysOk.get rfl) rfl (by first | rfl | assumption) (by repeat (first | exact Upd.here | apply Upd.there)) (by omega) ?_)))); (refine ⟨_, fun _ h => h, ?_⟩); (refine TrA.done (by kernel_rfl) ?_))
      rw [Int.toNat_natCast u, intV_set]
      (repeat (first | ((with_reducible refine Tr.step rfl ?_); (first | ((with_reducible refine Knd.move ?_); (refine Exec.stab rfl (Stab.move rfl) rfl ?_)) | ((with_reducible refine Knd.binOp ?_); (refine Exec.stab rfl (Stab.addi rfl rfl (by omega)) rfl ?_)))) | (with_reducible first | apply Tr.next | apply Tr.region | apply Tr.nil | apply Tr.in_normal)))
      refine Tr.give (r := box b _ _) (by repeat (first | exact Del.here | apply Del.there)) ?_
      exact Tr.again (i + 1, { t2 with dy := t2.dy.set u (max n day) }) ⟨by simp only; omega, hstep.symm, ⟨he1, by simp only [List.length_set]; omega, he4⟩, he3.next⟩ (by simp only; omega) (holds_sub (by repeat (first | exact SubFr.nil | refine SubFr.cons rfl ?_)) (by repeat (first | exact DropL.refl | apply DropL.skip)))
  have ei : idx.length = i := by omega
  subst ei
  rw [List.take_of_length_le (by simp)] at he
  have hbr0 : (beginF k).br = (brB s.br j).take 0 ++ List.replicate (k.reqs.length - 0) (-1) := by
    rw [List.take_zero, List.nil_append, Nat.sub_zero]
    exact List.map_const' ..
  rw [hbr0]
  clear hx hl
  (repeat (first | ((with_reducible refine Tr.step rfl ?_); (first | ((with_reducible refine Knd.move ?_); (refine Exec.stab rfl (Stab.move rfl) rfl ?_)) | ((with_reducible refine Knd.load ?_); (refine Exec.stab rfl (Stab.load rfl (tysOk.get rfl) rfl (by repeat (first | exact Has.here | apply Has.there)) rfl) rfl ?_)) | ((with_reducible refine Knd.fieldAddr ?_); (refine Exec.stab rfl (Stab.fieldZ rfl (tysOk.get rfl) rfl rfl (tysOk.get rfl) rfl) rfl ?_)) | ((with_reducible refine Knd.len ?_); (refine Exec.stab rfl (Stab.len rfl (tysOk.get rfl) rfl) rfl ?_)) | ((with_reducible refine Knd.binOp ?_); (refine Exec.stab rfl (Stab.int rfl rfl rfl) rfl ?_)))) | (with_reducible first | apply Tr.next | apply Tr.seq | apply Tr.region | apply Tr.nil | apply Tr.block | apply Tr.exit | apply Tr.then_exit) | ((with_reducible refine Tr.in_exit ?_ ?_); (exact rfl)) | (refine Tr.cond_f rfl (by first | (with_reducible assumption) | omega) ?_)))
  refine Tr.loop (α := Nat) (fun y => ⟨113, [(94, .int .i64 (y : Int)), (93, .int .i64 (s.br.length : Int)), (92, .slice Bb s.br.length kb), (11, .pointer (some ⟨b11, 0, none⟩)), (10, .pointer (some ⟨b10, 0, none⟩)), (3, .int .i64 (j : Int))], [], M,
      box b11 64 [.slice Af2 k.fits.length cf2, .slice A1 k.sups.length c1, .slice A2 k.sups.length c2, .slice A3 k.reqs.length c3, .slice A4 k.reqs.length c4, .slice A5 k.reqs.length c5] :: ownS 3 1 A3 k.reqs.length c3 (intV t.nd) :: ownS 3 1 A4 k.reqs.length c4 (intV (fxB k).due) :: ownS 3 1 A5 k.reqs.length c5 (intV ((brB s.br j).take y ++ List.replicate (k.reqs.length - y) (-1))) :: ownS 3 1 A1 k.sups.length c1 (intV t2.am) :: ownS 3 1 A2 k.sups.length c2 (intV t2.dy) ::
      box b10 64 [.slice none 0 0, .slice none 0 0, .slice none 0 0, .slice none 0 0, .slice none 0 0, .slice none 0 0] :: box b7 64 [.slice Bf (fxB k).fits.length kf, .slice Ba s.am.length ka, .slice Bd s.dy.length kd, .slice Bn s.nd.length kn, .slice Bu (fxB k).due.length ku, .slice Bb s.br.length kb] :: box b5 27 [.int .i64 k.known, .slice As k.sups.length cs, .slice Ar k.reqs.length cr, .slice Af k.fits.length cf, .slice Ad k.reads cd] :: F⟩)
    (fun y => y ≤ k.reqs.length) (fun y => k.reqs.length - y) 0 (Nat.zero_le _) (holds_sub (by repeat (first | exact SubFr.nil | refine SubFr.cons rfl ?_)) (by repeat (first | exact DropL.refl | apply DropL.skip))) (fun i hi => ?_)
  by_cases hlt3 : i < k.reqs.length
  · obtain ⟨a, ha⟩ := get_of_lt (xs := s.br) (i := i) (by omega)
    obtain ⟨hAb, hatb⟩ := Ints.at q6 ha
    have hnx := brI_next (j := j) n4 ha
    by_cases h0 : 0 ≤ a
    · by_cases hj2 : a < (j : Int)
      · rw [if_pos ⟨h0, hj2⟩] at hnx
        refine Tr.own_some A5 (e := 3) (sz := 1) (m := k.reqs.length) (c := c5) (by repeat (first | exact Has.here | apply Has.there)) (by omega) (fun hA5 => ?_)
        (repeat (first | ((with_reducible refine Tr.step rfl ?_); (first | ((with_reducible refine Knd.move ?_); (refine Exec.stab rfl (Stab.move rfl) rfl ?_)) | ((with_reducible refine Knd.assign ?_); (refine Exec.stab rfl (Stab.assign rfl) rfl ?_)) | ((with_reducible refine Knd.load ?_); (first | (refine Exec.stab rfl (Stab.load rfl (tysOk.get rfl) rfl (by repeat (first | exact Has.here | apply Has.there)) rfl) rfl ?_) | (refine Exec.stab rfl (Stab.loadM rfl (tysOk.get rfl) rfl (by assumption)) rfl ?_))) | ((with_reducible refine Knd.fieldAddr ?_); (refine Exec.stab rfl (Stab.fieldZ rfl (tysOk.get rfl) rfl rfl (tysOk.get rfl) rfl) rfl ?_)) | ((with_reducible refine Knd.binOp ?_); (first | (refine Exec.stab rfl (Stab.addi rfl rfl (by omega)) rfl ?_) | (refine Exec.stab rfl (Stab.int rfl rfl rfl) rfl ?_))) | ((with_reducible refine Knd.pick ?_); (refine Exec.stab rfl (Stab.pick_td rfl (by (with_reducible assumption)) rfl) rfl ?_)) | ((with_reducible refine Knd.store ?_); (refine Exec.storeO rfl rfl (tysOk.get rfl) rfl (by first | rfl | assumption) (by repeat (first | exact Upd.here | apply Upd.there)) (by omega) ?_)) | ((with_reducible refine Knd.indexAddr ?_); (refine Exec.stab rfl (Stab.indexAddr rfl rfl (tysOk.get rfl) rfl (tysOk.get rfl) rfl (by omega) (by omega) (by first | rfl | assumption)) rfl ?_)))) | (with_reducible first | apply Tr.next | apply Tr.seq | apply Tr.region | apply Tr.nil) | ((refine Tr.guard_y rfl rfl rfl (by (with_reducible assumption)) ?_); (first | ((with_reducible refine Knd.move ?_); (refine Exec.stab rfl (Stab.move rfl) rfl ?_)) | ((with_reducible refine Knd.binOp ?_); (refine Exec.stab rfl (Stab.int rfl rfl rfl) rfl ?_)))) | (with_reducible first | apply Tr.skip | apply Tr.block | apply Tr.in_normal) | (refine Tr.cond_t rfl (by first | (with_reducible assumption) | omega) ?_)))
        rw [Int.toNat_natCast i, intV_set, hnx]
        exact Tr.again (i + 1) (by omega) (by omega) (holds_sub (by repeat (first | exact SubFr.nil | refine SubFr.cons rfl ?_)) (by repeat (first | exact DropL.refl | apply DropL.skip)))
      · rw [if_neg (fun h => hj2 h.2)] at hnx
        have hsame : ((brB s.br j).take i ++ List.replicate (k.reqs.length - i) (-1 : Int)) = (brB s.br j).take (i + 1) ++ List.replicate (k.reqs.length - (i + 1)) (-1) := by
          rw [← hnx, set_same (by rw [List.getElem?_append_right (by rw [List.length_take, brB_length]; omega), List.length_take, brB_length, Nat.min_eq_left (by omega), Nat.sub_self, List.getElem?_replicate, if_pos (by omega)])]
        rw [hsame]
        (repeat (first | ((with_reducible refine Tr.step rfl ?_); (first | ((with_reducible refine Knd.move ?_); (refine Exec.stab rfl (Stab.move rfl) rfl ?_)) | ((with_reducible refine Knd.assign ?_); (refine Exec.stab rfl (Stab.assign rfl) rfl ?_)) | ((with_reducible refine Knd.load ?_); (refine Exec.stab rfl (Stab.loadM rfl (tysOk.get rfl) rfl (by assumption)) rfl ?_)) | ((with_reducible refine Knd.binOp ?_); (first | (refine Exec.stab rfl (Stab.addi rfl rfl (by omega)) rfl ?_) | (refine Exec.stab rfl (Stab.int rfl rfl rfl) rfl ?_))) | ((with_reducible refine Knd.pick ?_); (refine Exec.stab rfl (Stab.pick_td rfl (by (with_reducible assumption)) rfl) rfl ?_)) | ((with_reducible refine Knd.indexAddr ?_); (refine Exec.stab rfl (Stab.indexAddr rfl rfl (tysOk.get rfl) rfl (tysOk.get rfl) rfl (by omega) (by omega) (by first | rfl | assumption)) rfl ?_)))) | (with_reducible first | apply Tr.next | apply Tr.seq | apply Tr.region | apply Tr.nil) | ((refine Tr.guard_y rfl rfl rfl (by (with_reducible assumption)) ?_); (first | ((with_reducible refine Knd.move ?_); (refine Exec.stab rfl (Stab.move rfl) rfl ?_)) | ((with_reducible refine Knd.binOp ?_); (refine Exec.stab rfl (Stab.int rfl rfl rfl) rfl ?_)))) | (with_reducible first | apply Tr.skip | apply Tr.block | apply Tr.in_normal) | (refine Tr.cond_t rfl (by first | (with_reducible assumption) | omega) ?_) | (refine Tr.cond_f rfl (by (with_reducible assumption)) ?_)))
        exact Tr.again (i + 1) (by omega) (by omega) (holds_sub (by repeat (first | exact SubFr.nil | refine SubFr.cons rfl ?_)) (by repeat (first | exact DropL.refl | apply DropL.skip)))
    · rw [if_neg (fun h => h0 h.1)] at hnx
      have hsame : ((brB s.br j).take i ++ List.replicate (k.reqs.length - i) (-1 : Int)) = (brB s.br j).take (i + 1) ++ List.replicate (k.reqs.length - (i + 1)) (-1) := by
        rw [← hnx, set_same (by rw [List.getElem?_append_right (by rw [List.length_take, brB_length]; omega), List.length_take, brB_length, Nat.min_eq_left (by omega), Nat.sub_self, List.getElem?_replicate, if_pos (by omega)])]
      rw [hsame]
      (repeat (first | ((with_reducible refine Tr.step rfl ?_); (first | ((with_reducible refine Knd.move ?_); (refine Exec.stab rfl (Stab.move rfl) rfl ?_)) | ((with_reducible refine Knd.assign ?_); (refine Exec.stab rfl (Stab.assign rfl) rfl ?_)) | ((with_reducible refine Knd.load ?_); (refine Exec.stab rfl (Stab.loadM rfl (tysOk.get rfl) rfl (by assumption)) rfl ?_)) | ((with_reducible refine Knd.binOp ?_); (first | (refine Exec.stab rfl (Stab.addi rfl rfl (by omega)) rfl ?_) | (refine Exec.stab rfl (Stab.int rfl rfl rfl) rfl ?_))) | ((with_reducible refine Knd.pick ?_); (refine Exec.stab rfl (Stab.pick_fd rfl (by (with_reducible assumption)) rfl) rfl ?_)) | ((with_reducible refine Knd.indexAddr ?_); (refine Exec.stab rfl (Stab.indexAddr rfl rfl (tysOk.get rfl) rfl (tysOk.get rfl) rfl (by omega) (by omega) (by first | rfl | assumption)) rfl ?_)))) | (with_reducible first | apply Tr.next | apply Tr.seq | apply Tr.region | apply Tr.nil) | (refine Tr.guard_n rfl rfl rfl (by (with_reducible assumption)) rfl rfl ?_) | (with_reducible first | apply Tr.skip | apply Tr.block | apply Tr.in_normal) | (refine Tr.cond_bf rfl (by (with_reducible rfl)) ?_) | (refine Tr.cond_t rfl (by first | (with_reducible assumption) | omega) ?_)))
      exact Tr.again (i + 1) (by omega) (by omega) (holds_sub (by repeat (first | exact SubFr.nil | refine SubFr.cons rfl ?_)) (by repeat (first | exact DropL.refl | apply DropL.skip)))
  have ei : k.reqs.length = i := by omega
  subst ei
  rw [Nat.sub_self, List.replicate_zero, List.append_nil, List.take_of_length_le (by rw [brB_length]; omega)]
  refine Tr.publish (r := ownS 3 1 A3 _ _ _) (by repeat (first | exact Del.here | apply Del.there)) (fun M1 hm1 ok1 => ?_)
  have i1 := Ints.ofOwn ok1 ht2.symm hc3
  refine Tr.publish (r := ownS 3 1 A4 _ _ _) (by repeat (first | exact Del.here | apply Del.there)) (fun M2 hm2 ok2 => ?_)
  have i2 := Ints.ofOwn ok2 (by simp [fxB]) hc4
  refine Tr.publish (r := ownS 3 1 A5 _ _ _) (by repeat (first | exact Del.here | apply Del.there)) (fun M3 hm3 ok3 => ?_)
  have i3 := Ints.ofOwn ok3 (by rw [brB_length]; omega) hc5
  refine Tr.publish (r := ownS 3 1 A1 _ _ _) (by repeat (first | exact Del.here | apply Del.there)) (fun M4 hm4 ok4 => ?_)
  have i4 := Ints.ofOwn ok4 he1.symm hc1
  refine Tr.publish (r := ownS 3 1 A2 _ _ _) (by repeat (first | exact Del.here | apply Del.there)) (fun M5 hm5 ok5 => ?_)
  have i5 := Ints.ofOwn ok5 he2.symm hc2
  have m45 := hm4.trans hm5
  have m35 := hm3.trans m45
  have m25 := hm2.trans m35
  have hlast := hm1.trans m25
  (repeat (first | ((with_reducible refine Tr.step rfl ?_); (first | ((with_reducible refine Knd.load ?_); (refine Exec.stab rfl (Stab.loadW rfl (tysOk.get rfl) rfl (by repeat (first | exact Has.here | apply Has.there)) rfl) rfl ?_)) | ((with_reducible refine Knd.binOp ?_); (refine Exec.stab rfl (Stab.int rfl rfl rfl) rfl ?_)) | ((with_reducible refine Knd.store ?_); (refine Exec.storeW rfl rfl (tysOk.get rfl) (by repeat (first | exact Upd.here | apply Upd.there)) rfl rfl (by repeat (first | exact AllOne.nil | refine AllOne.cons (by first | rfl | assumption) ?_)) ?_)))) | (with_reducible first | apply Tr.next | apply Tr.seq | apply Tr.region | apply Tr.nil | apply Tr.exit | apply Tr.ret | apply Tr.then_exit) | ((with_reducible refine Tr.in_exit ?_ ?_); (exact rfl)) | (refine Tr.cond_f rfl (by first | (with_reducible assumption) | omega) ?_)))
  (refine Tr.done (by first | exact .inl rfl | exact .inr rfl) rfl (by repeat (first | exact RVs.nil | (apply RVs.cons; (exact RV.cellW (by rfl) (tysOk.get (by rfl)) (by rfl) (by repeat (first | exact Has.here | apply Has.there)) (by first | rfl | assumption))))) (by first | exact Mem.le.refl _ | assumption) (by exact ⟨[_, _, _, _], rfl⟩) ⟨rfl, ?_⟩)
  have hw : withF k l s.br j idx = { t2 with br := brB s.br j } := by rw [withF, he, ht]
  rw [hw]
  refine ⟨Af2, cf2, A1, c1, A2, c2, A3, c3, A4, c4, A5, c5, ?_, hff.mono RRowB.mono hlast, i4.mono RI.mono hm5, i5, ?_, i2.mono RI.mono m35, i3.mono RI.mono m45⟩
  · show _ = Value.agg #[_, .slice _ t2.am.length _, .slice _ t2.dy.length _, .slice _ t2.nd.length _, .slice _ ((fxB k).due.length) _, .slice _ (brB s.br j).length _]
    rw [he1, he2, he4, ht2, brB_length, n4, show (fxB k).due.length = k.reqs.length by simp [fxB]]
    rfl
  · show Ints M5 (.slice A3 t2.nd.length c3) t2.nd
    rw [he4]
    exact i1.mono RI.mono m25
end Go.Proofs.Ytgnipfjjkliibaa

/-
  Honour: because.
  Conditions: none.
-/
namespace Go.Proofs.Ytgnipfjjkliibaa
open Go Bf
attribute [local irreducible] Tr Exec Stab HasTy Go.Addr.add IntKind.wrap
theorem notShip_next {l : List Hp} {i : Nat} : notShip l (i + 1) = notShip l i ++ (if (l.getD i zH).kind ≠ 3 then [i] else []) := by
  rw [notShip, List.range_succ, List.filter_append, notShip]
  congr 1
  by_cases h : (l.getD i zH).kind ≠ 3
  · rw [if_pos h, List.filter_cons_of_pos (by exact decide_eq_true h)]; rfl
  · rw [if_neg h, List.filter_cons_of_neg (by rw [decide_eq_true_iff]; exact h)]; rfl
theorem notShip_len (l : List Hp) (n : Nat) : (notShip l n).length ≤ n := by
  have := (notShip_sub l n).length_le
  rwa [List.length_range] at this
theorem nats__erase (l : List Nat) (i : Nat) : (nats_ l).eraseIdx i = nats_ (l.eraseIdx i) := by
  rw [nats_, nats_, List.eraseIdx_eq_take_drop_succ, List.eraseIdx_eq_take_drop_succ, List.map_append, List.map_take, List.map_drop]
theorem nats__mem {l : List Nat} {q : Nat} : (q : Int) ∈ nats_ l ↔ q ∈ l := by
  simp only [nats_, List.mem_map]
  constructor
  · rintro ⟨a, ha, e⟩
    have : a = q := by omega
    rwa [← this]
  · exact fun h => ⟨q, h, rfl⟩
set_option maxHeartbeats 16000000 in
theorem because_fn (M : Mem) (vb vs : Value) (k : Bk) (hB : RBk M vb k) (A : Option Addr) (c : Nat) (l : List Hp) (hl : SlOf 5 RHp M (.slice A l.length c) l) (s : St) (hS : RSt M vs (fxB k) s) (hrun : runF k l = some s) (q : Nat) (hq : q < k.reqs.length) (hbq : 0 ≤ s.br.getD q 0) (hll : l.length ≤ 1000) :
    Fn0 Try.prog 31 [vb, .slice A l.length c, vs, .int .i64 (q : Int)] M (fun r M' => ∃ A' c', r = .slice A' (becF k l s.br q).length c' ∧ Ints M' (.slice A' (becF k l s.br q).length c') (nats_ (becF k l s.br q))) := by
  have hB0 := hB
  have hS0 := hS
  obtain ⟨As, cs, Ar, cr, Af, cf, Ad, cd, rfl, h1, h2, h3⟩ := hB
  obtain ⟨Bf, kf, Ba, ka, Bd, kd, Bn, kn, Bu, ku, Bb, kb, rfl, q1, q2, q3, q4, q5, q6⟩ := hS
  obtain ⟨n1, n2, n3, n4⟩ := run_len hrun
  obtain ⟨hfb, -, -⟩ := run_keep hrun
  have hr64 := hfb.2.1
  obtain ⟨j, hjl, hj, hj3⟩ : ∃ j, j < l.length ∧ s.br.getD q 0 = (j : Int) ∧ (l.getD j zH).kind ≠ 3 := by
    rcases run_brk hrun hq with e | e
    · omega
    · exact e
  have hbec : becF k l s.br q = becL k l s.br j q (notShip l (j + 1)).length (notShip l (j + 1)) := by rw [becF, hj]; rfl
  obtain ⟨z, hz⟩ := get_of_lt (xs := s.br) (i := q) (by omega)
  obtain rfl : z = (j : Int) := by rw [getD_of (d := (0 : Int)) hz] at hj; exact hj
  obtain ⟨hAb, hatb⟩ := Ints.at q6 hz
  have hcl := hl.len_le
  obtain ⟨-, -, hlc, hc63, -⟩ := SlOf.cells hl
  refine Fn.intro Try.func31 rfl rfl Try.ntmps31 rfl fun E F => ?_
  (repeat (first | ((with_reducible refine Tr.step rfl ?_); (first | ((with_reducible refine Knd.move ?_); (refine Exec.stab rfl (Stab.move rfl) rfl ?_)) | ((with_reducible refine Knd.assign ?_); (refine Exec.stab rfl (Stab.assign rfl) rfl ?_)) | ((with_reducible refine Knd.load ?_); (first | (refine Exec.stab rfl (Stab.load rfl (tysOk.get rfl) rfl (by repeat (first | exact Has.here | apply Has.there)) rfl) rfl ?_) | (refine Exec.stab rfl (Stab.loadM rfl (tysOk.get rfl) rfl (by assumption)) rfl ?_))) | ((with_reducible refine Knd.fieldAddr ?_); (refine Exec.stab rfl (Stab.fieldZ rfl (tysOk.get rfl) rfl rfl (tysOk.get rfl) rfl) rfl ?_)) | ((with_reducible refine Knd.len ?_); (refine Exec.stab rfl (Stab.len rfl (tysOk.get rfl) rfl) rfl ?_)) | ((with_reducible refine Knd.binOp ?_); (refine Exec.stab rfl (Stab.addi rfl rfl (by omega)) rfl ?_)) | ((with_reducible refine Knd.box ?_); (refine Exec.box rfl rfl (fun b => ?_))) | ((with_reducible refine Knd.indexAddr ?_); (refine Exec.stab rfl (Stab.indexAddr rfl rfl (tysOk.get rfl) rfl (tysOk.get rfl) rfl (by omega) (by omega) (by first | rfl | assumption)) rfl ?_)) | ((with_reducible refine Knd.slice ?_); (refine Exec.stab rfl (Stab.slice_h rfl rfl (tysOk.get rfl) rfl (tysOk.get rfl) (by omega) (by omega)) rfl ?_)))) | (with_reducible first | apply Tr.next | apply Tr.seq | apply Tr.region | apply Tr.nil | apply Tr.block)))
  generalize b = b6
  rename_i b4
  refine Tr.own_nil 3 1 ?_
  have ej : ((j : Int) + 1).toNat = j + 1 := by omega
  rw [ej]
  refine Tr.loop (α := Nat × Option Addr × Nat) (fun y => ⟨65, [(25, .int .i64 (y.1 : Int)), (24, .int .i64 ((j + 1 : Nat) : Int)), (23, .slice A (j + 1) c), (9, .int .i64 (j : Int)), (8, .slice y.2.1 (notShip l y.1).length y.2.2), (6, .pointer (some ⟨b6, 0, none⟩)), (4, .pointer (some ⟨b4, 0, none⟩)), (1, .slice A l.length c), (3, .int .i64 (q : Int))], [], M,
      ownS 3 1 y.2.1 (notShip l y.1).length y.2.2 (intV (nats_ (notShip l y.1))) :: box b6 64 [.slice Bf (fxB k).fits.length kf, .slice Ba s.am.length ka, .slice Bd s.dy.length kd, .slice Bn s.nd.length kn, .slice Bu (fxB k).due.length ku, .slice Bb s.br.length kb] :: box b4 27 [.int .i64 k.known, .slice As k.sups.length cs, .slice Ar k.reqs.length cr, .slice Af k.fits.length cf, .slice Ad k.reads cd] :: ([] ++ F)⟩)
    (fun y => y.1 ≤ j + 1 ∧ y.2.2 ≤ 9223372036854775807) (fun y => j + 1 - y.1) (0, none, 0) ⟨Nat.zero_le _, by show (0 : Nat) ≤ _; omega⟩ (holds_sub (by repeat (first | exact SubFr.nil | refine SubFr.cons rfl ?_)) (by repeat (first | exact DropL.refl | apply DropL.skip))) (fun y hy => ?_)
  obtain ⟨i, A1, c1⟩ := y
  obtain ⟨hi, hc1⟩ := hy
  dsimp only at hi hc1
  dsimp only
  by_cases hlt : i < j + 1
  · obtain ⟨h, hh⟩ := get_of_lt (xs := l) (i := i) (by omega)
    obtain ⟨hA, ch, hat, rfl⟩ := hl.elem hh
    have hnx := notShip_next (l := l) (i := i)
    rw [getD_of (d := zH) hh] at hnx
    have hnl := notShip_len l i
    by_cases hk : h.kind ≠ 3
    · rw [if_pos hk] at hnx
      (repeat (first | ((with_reducible refine Tr.step rfl ?_); (first | ((with_reducible refine Knd.move ?_); (refine Exec.stab rfl (Stab.move rfl) rfl ?_)) | ((with_reducible refine Knd.assign ?_); (refine Exec.stab rfl (Stab.assign rfl) rfl ?_)) | ((with_reducible refine Knd.load ?_); (first | (refine Exec.stab rfl (Stab.load rfl (tysOk.get rfl) rfl (by repeat (first | exact Has.here | apply Has.there)) rfl) rfl ?_) | (refine Exec.stab rfl (Stab.loadMA rfl (tysOk.get rfl) rfl (by assumption) (by first | rfl | assumption)) rfl ?_))) | ((with_reducible refine Knd.fieldAddr ?_); (refine Exec.stab rfl (Stab.fieldZ rfl (tysOk.get rfl) rfl rfl (tysOk.get rfl) rfl) rfl ?_)) | ((with_reducible refine Knd.binOp ?_); (refine Exec.stab rfl (Stab.int rfl rfl rfl) rfl ?_)) | ((with_reducible refine Knd.store ?_); (refine Exec.storeW rfl rfl (tysOk.get rfl) (by repeat (first | exact Upd.here | apply Upd.there)) rfl rfl (by repeat (first | exact AllOne.nil | refine AllOne.cons (by first | rfl | assumption) ?_)) ?_)) | ((with_reducible refine Knd.alloc ?_); (refine Exec.alloc (tysOk.get rfl) rfl rfl (fun b => ?_))) | ((with_reducible refine Knd.indexAddr ?_); (refine Exec.stab rfl (Stab.indexAddr rfl rfl (tysOk.get rfl) rfl (tysOk.get rfl) rfl (by omega) (by omega) (by first | rfl | assumption)) rfl ?_)) | ((with_reducible refine Knd.buildSlice ?_); (refine Exec.buildSlice (tysOk.get rfl) rfl (tysOk.get rfl) rfl rfl rfl rfl rfl (by repeat (first | exact BuildP.nil | ((apply BuildP.one); (rfl); (rfl); (first | rfl | assumption); (repeat (first | exact SetL.z | apply SetL.s))))) rfl (fun b => ?_))))) | (with_reducible first | apply Tr.next | apply Tr.seq | apply Tr.region | apply Tr.nil | apply Tr.skip | apply Tr.block) | (refine Tr.cond_t rfl (by first | (with_reducible assumption) | omega) ?_)))
      rename_i b11
      ((refine Tr.step rfl ?_))
      refine Exec.append (news := [.int .i64 (i : Int)]) rfl rfl (tysOk.get rfl) rfl (tysOk.get rfl) rfl rfl rfl rfl (by repeat (first | exact Del.here | apply Del.there)) (Src.box (by repeat (first | exact Has.here | apply Has.there))) rfl (by intro u hu; simp at hu; subst hu; rfl) (by omega) (by omega) rfl (fun A2 c2 hc2 => ?_)
      refine Tr.give (r := box b 3 _) (by repeat (first | exact Del.here | apply Del.there)) ?_
      rw [show intV (nats_ (notShip l i)) ++ [Value.int .i64 (i : Int)] = intV (nats_ (notShip l (i + 1))) by rw [hnx, nats__snoc, intV_append]; rfl, show (notShip l i).length + 1 = (notShip l (i + 1)).length by rw [hnx, List.length_append]; rfl]
      (repeat (first | ((with_reducible refine Tr.step rfl ?_); (first | ((with_reducible refine Knd.move ?_); (refine Exec.stab rfl (Stab.move rfl) rfl ?_)) | ((with_reducible refine Knd.assign ?_); (refine Exec.stab rfl (Stab.assign rfl) rfl ?_)) | ((with_reducible refine Knd.binOp ?_); (refine Exec.stab rfl (Stab.addi rfl rfl (by omega)) rfl ?_)))) | (with_reducible first | apply Tr.next | apply Tr.region | apply Tr.nil | apply Tr.in_normal)))
      refine Tr.give (r := box b11 _ _) (by repeat (first | exact Del.here | apply Del.there)) ?_
      exact Tr.again (i + 1, A2, c2) ⟨by simp only; omega, hc2⟩ (by simp only; omega) (holds_sub (by repeat (first | exact SubFr.nil | refine SubFr.cons rfl ?_)) (by repeat (first | exact DropL.refl | apply DropL.skip)))
    · rw [if_neg hk, List.append_nil] at hnx
      rw [← hnx]
      have hk3 : h.kind = 3 := Classical.not_not.1 hk
      (repeat (first | ((with_reducible refine Tr.step rfl ?_); (first | ((with_reducible refine Knd.move ?_); (refine Exec.stab rfl (Stab.move rfl) rfl ?_)) | ((with_reducible refine Knd.assign ?_); (refine Exec.stab rfl (Stab.assign rfl) rfl ?_)) | ((with_reducible refine Knd.load ?_); (first | (refine Exec.stab rfl (Stab.load rfl (tysOk.get rfl) rfl (by repeat (first | exact Has.here | apply Has.there)) rfl) rfl ?_) | (refine Exec.stab rfl (Stab.loadMA rfl (tysOk.get rfl) rfl (by assumption) (by first | rfl | assumption)) rfl ?_))) | ((with_reducible refine Knd.fieldAddr ?_); (refine Exec.stab rfl (Stab.fieldZ rfl (tysOk.get rfl) rfl rfl (tysOk.get rfl) rfl) rfl ?_)) | ((with_reducible refine Knd.binOp ?_); (first | (refine Exec.stab rfl (Stab.addi rfl rfl (by omega)) rfl ?_) | (refine Exec.stab rfl (Stab.int rfl rfl rfl) rfl ?_))) | ((with_reducible refine Knd.store ?_); (refine Exec.storeW rfl rfl (tysOk.get rfl) (by repeat (first | exact Upd.here | apply Upd.there)) rfl rfl (by repeat (first | exact AllOne.nil | refine AllOne.cons (by first | rfl | assumption) ?_)) ?_)) | ((with_reducible refine Knd.alloc ?_); (refine Exec.alloc (tysOk.get rfl) rfl rfl (fun b => ?_))) | ((with_reducible refine Knd.indexAddr ?_); (refine Exec.stab rfl (Stab.indexAddr rfl rfl (tysOk.get rfl) rfl (tysOk.get rfl) rfl (by omega) (by omega) (by first | rfl | assumption)) rfl ?_)))) | (with_reducible first | apply Tr.next | apply Tr.seq | apply Tr.region | apply Tr.nil | apply Tr.skip | apply Tr.block | apply Tr.in_normal) | (refine Tr.cond_t rfl (by first | (with_reducible assumption) | omega) ?_) | (refine Tr.cond_f rfl (by (with_reducible assumption)) ?_)))
      refine Tr.give (r := box b _ _) (by repeat (first | exact Del.here | apply Del.there)) ?_
      exact Tr.again (i + 1, A1, c1) ⟨by simp only; omega, hc1⟩ (by simp only; omega) (holds_sub (by repeat (first | exact SubFr.nil | refine SubFr.cons rfl ?_)) (by repeat (first | exact DropL.refl | apply DropL.skip)))
  have ei : j + 1 = i := by omega
  subst ei
  refine Tr.publish (r := ownS 3 1 A1 _ _ _) (by repeat (first | exact Del.here | apply Del.there)) (fun M1 hm1 ok1 => ?_)
  have i1 := Ints.ofOwn ok1 (by rw [nats__length]) hc1
  rw [nats__length] at i1
  have hnl := notShip_len l (j + 1)
  rw [hbec]
  clear ok1 hbec
  have hsub0 := notShip_sub l (j + 1)
  have hns0 : ∀ t ∈ notShip l (j + 1), (l.getD t zH).kind ≠ 3 := fun t ht => (notShip_mem.1 ht).2
  generalize notShip l (j + 1) = l0 at i1 hnl hsub0 hns0
  (repeat (first | ((with_reducible refine Tr.step rfl ?_); (first | ((with_reducible refine Knd.move ?_); (refine Exec.stab rfl (Stab.move rfl) rfl ?_)) | ((with_reducible refine Knd.assign ?_); (refine Exec.stab rfl (Stab.assign rfl) rfl ?_)) | ((with_reducible refine Knd.len ?_); (refine Exec.stab rfl (Stab.len rfl (tysOk.get rfl) rfl) rfl ?_)) | ((with_reducible refine Knd.binOp ?_); (first | (refine Exec.stab rfl (Stab.subi rfl rfl (by omega)) rfl ?_) | (refine Exec.stab rfl (Stab.int rfl rfl rfl) rfl ?_))))) | (with_reducible first | apply Tr.next | apply Tr.seq | apply Tr.region | apply Tr.nil | apply Tr.block | apply Tr.exit | apply Tr.then_exit) | ((with_reducible refine Tr.in_exit ?_ ?_); (exact rfl)) | (refine Tr.cond_f rfl (by first | (with_reducible assumption) | omega) ?_)))
  refine Tr.loop (α := Nat × Mem × Option Addr × Nat × List Nat) (fun y => ⟨65, [(12, .int .i64 ((y.1 : Int) - 1)), (9, .int .i64 (j : Int)), (8, .slice y.2.2.1 y.2.2.2.2.length y.2.2.2.1), (6, .pointer (some ⟨b6, 0, none⟩)), (4, .pointer (some ⟨b4, 0, none⟩)), (1, .slice A l.length c), (3, .int .i64 (q : Int))], [], y.2.1,
      box b6 64 [.slice Bf (fxB k).fits.length kf, .slice Ba s.am.length ka, .slice Bd s.dy.length kd, .slice Bn s.nd.length kn, .slice Bu (fxB k).due.length ku, .slice Bb s.br.length kb] :: box b4 27 [.int .i64 k.known, .slice As k.sups.length cs, .slice Ar k.reqs.length cr, .slice Af k.fits.length cf, .slice Ad k.reads cd] :: ([] ++ F)⟩)
    (fun y => y.1 ≤ y.2.2.2.2.length ∧ Mem.le M y.2.1 ∧ Ints y.2.1 (.slice y.2.2.1 y.2.2.2.2.length y.2.2.2.1) (nats_ y.2.2.2.2) ∧ (y.2.2.2.2.Sublist (List.range (j + 1)) ∧ (∀ t ∈ y.2.2.2.2, (l.getD t zH).kind ≠ 3)) ∧ becL k l s.br j q y.1 y.2.2.2.2 = becL k l s.br j q l0.length l0) (fun y => y.1)
    (l0.length, M1, A1, c1, l0) ⟨Nat.le_refl _, hm1, i1, ⟨hsub0, hns0⟩, rfl⟩ (holds_sub (by repeat (first | exact SubFr.nil | refine SubFr.cons rfl ?_)) (by repeat (first | exact DropL.refl | apply DropL.skip))) (fun y hy => ?_)
  clear hm1 i1
  obtain ⟨i, M2, A2, c2, left⟩ := y
  obtain ⟨hi, hm2, hx, ⟨hsub, hns⟩, hbl⟩ := hy
  dsimp only at hi hm2 hx hsub hns hbl
  dsimp only
  have hlen : left.length ≤ j + 1 := by have := hsub.length_le; rwa [List.length_range] at this
  cases i with
  | zero =>
    rw [show (((0 : Nat) : Int) - 1) = -1 by omega]
    (repeat (first | ((with_reducible refine Tr.step rfl ?_); (first | ((with_reducible refine Knd.move ?_); (refine Exec.stab rfl (Stab.move rfl) rfl ?_)) | ((with_reducible refine Knd.assign ?_); (refine Exec.stab rfl (Stab.assign rfl) rfl ?_)) | ((with_reducible refine Knd.binOp ?_); (refine Exec.stab rfl (Stab.int rfl rfl rfl) rfl ?_)))) | (with_reducible first | apply Tr.next | apply Tr.seq | apply Tr.region | apply Tr.nil | apply Tr.exit | apply Tr.ret | apply Tr.then_exit) | ((with_reducible refine Tr.in_exit ?_ ?_); (exact rfl)) | (refine Tr.cond_f rfl (by first | (with_reducible assumption) | omega) ?_)))
    (refine Tr.done (by first | exact .inl rfl | exact .inr rfl) rfl (by repeat (first | exact RVs.nil | (apply RVs.cons; (exact RV.tmp rfl)))) (by first | exact Mem.le.refl _ | assumption) (by exact ⟨[_, _], rfl⟩) ⟨rfl, ?_⟩)
    rw [← hbl]
    exact ⟨A2, c2, rfl, hx⟩
  | succ i =>
  rw [show (((i + 1 : Nat) : Int) - 1) = (i : Int) by omega]
  have hxl : (nats_ left).length = left.length := nats__length left
  have hcl2 := clone_fn M2 A2 c2 (nats_ left) (by rw [hxl]; exact hx) (by omega)
  rw [hxl] at hcl2
  (repeat (first | ((with_reducible refine Tr.step rfl ?_); (first | ((with_reducible refine Knd.move ?_); (refine Exec.stab rfl (Stab.move rfl) rfl ?_)) | ((with_reducible refine Knd.binOp ?_); (refine Exec.stab rfl (Stab.int rfl rfl rfl) rfl ?_)))) | (with_reducible first | apply Tr.next | apply Tr.seq | apply Tr.region | apply Tr.nil | apply Tr.skip | apply Tr.block) | (refine Tr.cond_t rfl (by first | (with_reducible assumption) | omega) ?_)))
  ((refine Tr.step rfl ?_))
  refine Exec.call (A := []) rfl hcl2 (List.Perm.refl _) rfl ?_
  rintro _ _ _ - ⟨⟨A3, c3, rfl, hc3, rfl⟩, rfl⟩
  simp only [List.cons_append, List.nil_append]
  have hdel := delete_own M2 A3 c3 (nats_ left) i (by omega) (by omega) hc3
  rw [hxl, nats__erase] at hdel
  (repeat (((with_reducible refine Tr.step rfl ?_); (first | ((with_reducible refine Knd.move ?_); (refine Exec.stab rfl (Stab.move rfl) rfl ?_)) | ((with_reducible refine Knd.binOp ?_); (refine Exec.stab rfl (Stab.addi rfl rfl (by omega)) rfl ?_))))))
  ((refine Tr.step rfl ?_))
  refine Exec.call (A := [ownS 3 1 A3 left.length c3 (intV (nats_ left))]) rfl hdel (List.Perm.refl _) rfl ?_
  rintro _ _ _ - ⟨rfl, rfl, rfl⟩
  simp only [List.cons_append, List.nil_append]
  rw [becL] at hbl
  have hel : (left.eraseIdx i).length = left.length - 1 := List.length_eraseIdx_of_lt (by omega)
  have hsub2 := (List.eraseIdx_sublist left i).trans hsub
  have hns2 : ∀ t ∈ left.eraseIdx i, (l.getD t zH).kind ≠ 3 := fun t ht => hns t ((List.eraseIdx_sublist left i).subset ht)
  rw [← hel]
  generalize left.eraseIdx i = others at hbl hel hsub2 hns2
  refine Tr.publish (r := ownS 3 1 A3 _ _ _) (by repeat (first | exact Del.here | apply Del.there)) (fun M3 hm3 ok3 => ?_)
  have i3 := Ints.ofOwn ok3 (by rw [nats__length]) hc3
  rw [nats__length] at i3
  have hm13 := hm2.trans hm3
  have hwo := without_fn M3 _ _ k (hB0.mono hm13) A c l (hl.mono RHp.mono hm13) s (hS0.mono hm13) hrun j (by omega) A3 c3 others i3 (fun t ht => ⟨by have := List.mem_range.1 (hsub2.subset ht); omega, hns2 t ht⟩) hll (by omega)
  have hwf := with_fit hrun hjl hsub2 hns2
  generalize withF k l s.br j others = wst at hwo hwf hbl
  (repeat (first | ((with_reducible refine Tr.step rfl ?_); (first | ((with_reducible refine Knd.move ?_); (refine Exec.stab rfl (Stab.move rfl) rfl ?_)) | ((with_reducible refine Knd.assign ?_); (refine Exec.stab rfl (Stab.assign rfl) rfl ?_)) | ((with_reducible refine Knd.load ?_); (refine Exec.stab rfl (Stab.loadW rfl (tysOk.get rfl) rfl (by repeat (first | exact Has.here | apply Has.there)) rfl) rfl ?_)))) | (with_reducible first | apply Tr.next | apply Tr.seq | apply Tr.region | apply Tr.nil)))
  ((refine Tr.step rfl ?_))
  refine Exec.call0 rfl hwo rfl ?_
  rintro r4 M4 hm4 hS4
  have hS4' := hS4
  obtain ⟨Cf, gf, Ca, ga, Cd, gd, Cn, gn, Cu, gu, Cb, gb, rfl, w1, w2, w3, w4, w5, w6⟩ := hS4
  have hq1 : (q : Int) + 1 = ((q + 1 : Nat) : Int) := by omega
  have hnd : wst.nd.length = k.reqs.length := by rw [← hwf.dul]; simp [fxB]
  have hfl := failing_own M4 _ (fxB k) wst (q + 1) hS4' hwf (by omega)
  (repeat (first | ((with_reducible refine Tr.step rfl ?_); (first | ((with_reducible refine Knd.move ?_); (refine Exec.stab rfl (Stab.move rfl) rfl ?_)) | ((with_reducible refine Knd.load ?_); (refine Exec.stab rfl (Stab.loadW rfl (tysOk.get rfl) rfl (by repeat (first | exact Has.here | apply Has.there)) rfl) rfl ?_)) | ((with_reducible refine Knd.binOp ?_); (refine Exec.stab rfl (Stab.addi rfl rfl (by omega)) rfl ?_)) | ((with_reducible refine Knd.store ?_); (refine Exec.storeW rfl rfl (tysOk.get rfl) (by repeat (first | exact Upd.here | apply Upd.there)) rfl rfl (by repeat (first | exact AllOne.nil | refine AllOne.cons (by first | rfl | assumption) ?_)) ?_)) | ((with_reducible refine Knd.alloc ?_); (refine Exec.alloc (tysOk.get rfl) rfl rfl (fun b => ?_))))) | (with_reducible first | apply Tr.next | apply Tr.seq | apply Tr.region | apply Tr.nil)))
  generalize b = b14
  rw [hq1]
  ((refine Tr.step rfl ?_))
  refine Exec.call (A := []) rfl hfl (List.Perm.refl _) rfl ?_
  rintro _ M5 _ hm5 ⟨A9, c9, hc9, rfl, rfl⟩
  simp only [List.cons_append, List.nil_append]
  generalize failF (fxB k) wst (q + 1) = fl at hbl
  refine Tr.publish (r := ownS 3 1 A9 _ _ _) (by repeat (first | exact Del.here | apply Del.there)) (fun M6 hm6 ok6 => ?_)
  have i6 := Ints.ofOwn ok6 (by rw [nats__length]) hc9
  have hm36 := hm4.trans (hm5.trans hm6)
  have hm26 := hm3.trans hm36
  have hfln : (nats_ fl).length = fl.length := nats__length fl
  have hco := contains_fn M6 A9 c9 (nats_ fl) (q : Int) i6
  rw [hfln] at hco
  (repeat (((with_reducible refine Tr.step rfl ?_); (with_reducible refine Knd.move ?_); (refine Exec.stab rfl (Stab.move rfl) rfl ?_))))
  ((refine Tr.step rfl ?_))
  refine Exec.call0 rfl hco rfl ?_
  rintro _ _ _ ⟨⟨bb, rfl, hbb⟩, rfl⟩
  rw [nats__mem] at hbb
  cases bb with
  | true =>
    rw [if_pos (hbb.1 rfl)] at hbl
    (repeat (first | ((with_reducible refine Tr.step rfl ?_); (first | ((with_reducible refine Knd.move ?_); (refine Exec.stab rfl (Stab.move rfl) rfl ?_)) | ((with_reducible refine Knd.assign ?_); (refine Exec.stab rfl (Stab.assign rfl) rfl ?_)) | ((with_reducible refine Knd.binOp ?_); (refine Exec.stab rfl (Stab.subi rfl rfl (by omega)) rfl ?_)))) | (with_reducible first | apply Tr.next | apply Tr.region | apply Tr.nil | apply Tr.in_normal) | (refine Tr.cond_bt rfl (by (with_reducible rfl)) ?_)))
    refine Tr.give (r := box b14 _ _) (by repeat (first | exact Del.here | apply Del.there)) ?_
    exact Tr.again (i, M6, A3, c3, others) ⟨by simp only; omega, hm2.trans hm26, i3.mono RI.mono hm36, ⟨hsub2, hns2⟩, hbl⟩ (by simp only; omega) (holds_sub (by repeat (first | exact SubFr.nil | refine SubFr.cons rfl ?_)) (by repeat (first | exact DropL.refl | apply DropL.skip)))
  | false =>
    rw [if_neg (fun h => by have := hbb.2 h; cases this)] at hbl
    (repeat (first | ((with_reducible refine Tr.step rfl ?_); (first | ((with_reducible refine Knd.move ?_); (refine Exec.stab rfl (Stab.move rfl) rfl ?_)) | ((with_reducible refine Knd.assign ?_); (refine Exec.stab rfl (Stab.assign rfl) rfl ?_)) | ((with_reducible refine Knd.binOp ?_); (refine Exec.stab rfl (Stab.subi rfl rfl (by omega)) rfl ?_)))) | (with_reducible first | apply Tr.next | apply Tr.region | apply Tr.nil | apply Tr.skip | apply Tr.in_normal) | (refine Tr.cond_bf rfl (by (with_reducible rfl)) ?_)))
    refine Tr.give (r := box b14 _ _) (by repeat (first | exact Del.here | apply Del.there)) ?_
    exact Tr.again (i, M6, A2, c2, left) ⟨by simp only; omega, hm2.trans hm26, hx.mono RI.mono hm26, ⟨hsub, hns⟩, hbl⟩ (by simp only; omega) (holds_sub (by repeat (first | exact SubFr.nil | refine SubFr.cons rfl ?_)) (by repeat (first | exact DropL.refl | apply DropL.skip)))
end Go.Proofs.Ytgnipfjjkliibaa

/-
  Honour: Broken.
  Conditions: none.
-/
namespace Go.Proofs.Ytgnipfjjkliibaa
open Go Bf
attribute [local irreducible] Tr Exec Stab HasTy Go.Addr.add IntKind.wrap
noncomputable def brkN (k : Bk) (l : List Hp) (s : St) (n : Nat) : List (Nat × List Nat) := ((List.range n).filter fun q => decide (0 ≤ s.br.getD q 0)).map fun q => (q, becF k l s.br q)
noncomputable def brkF (k : Bk) (l : List Hp) (s : St) : List (Nat × List Nat) := brkN k l s s.br.length
def RBr (M : Mem) (c : List Value) (y : Nat × List Nat) : Prop := ∃ A n, c = [.int .i64 (y.1 : Int), .slice A y.2.length n] ∧ Ints M (.slice A y.2.length n) (nats_ y.2)
theorem RBr.mono (M M' : Mem) (c : List Value) (y : Nat × List Nat) (hm : Mem.le M M') (h : RBr M c y) : RBr M' c y := by
  obtain ⟨A, n, h1, h2⟩ := h
  exact ⟨A, n, h1, h2.mono RI.mono hm⟩
theorem brkN_succ (k : Bk) (l : List Hp) (s : St) (n : Nat) : brkN k l s (n + 1) = brkN k l s n ++ (if 0 ≤ s.br.getD n 0 then [(n, becF k l s.br n)] else []) := by
  rw [brkN, List.range_succ, List.filter_append, List.map_append, brkN]
  congr 1
  by_cases h : 0 ≤ s.br.getD n 0
  · rw [if_pos h, List.filter_cons_of_pos (by exact decide_eq_true h)]; rfl
  · rw [if_neg h, List.filter_cons_of_neg (by rw [decide_eq_true_iff]; exact h)]; rfl
theorem brkN_len (k : Bk) (l : List Hp) (s : St) (n : Nat) : (brkN k l s n).length ≤ n := by
  rw [brkN, List.length_map]
  have := List.length_filter_le (fun q => decide (0 ≤ s.br.getD q 0)) (List.range n)
  rwa [List.length_range] at this
set_option maxHeartbeats 16000000 in
theorem broken1_fn (M : Mem) (k : Bk) (v1 v2 v3 v4 v5 : Value) (h : RBk M (.agg #[v1, v2, v3, v4, v5]) k) (A : Option Addr) (c : Nat) (l : List Hp) (hl : SlOf 5 RHp M (.slice A l.length c) l) (hll : l.length ≤ 1000) (b2 b3 b4 : Nat) :
    FnP Try.prog 30 [.pointer (some ⟨b2, 0, none⟩), .pointer (some ⟨b3, 0, none⟩), .pointer (some ⟨b4, 0, none⟩)] M [box b2 27 [v1, v2, v3, v4, v5], box b3 28 [.slice A l.length c], box b4 34 [.slice none 0 0]]
      (fun _ M' A' => ∃ s A9 c9, runF k l = some s ∧ SlOf 2 RBr M' (.slice A9 (brkF k l s).length c9) (brkF k l s) ∧ A' = [box b4 34 [.slice A9 (brkF k l s).length c9]])
      (fun ch _ A' => ch = refCh ∧ runF k l = none ∧ A' = [box b4 34 [.slice none 0 0]]) := by
  refine FnP.intro Try.func30 rfl rfl Try.ntmps30 rfl fun E F => ?_
  (repeat (first | ((with_reducible refine Tr.step rfl ?_); (with_reducible refine Knd.load ?_); (first | (refine Exec.stab rfl (Stab.load rfl (tysOk.get rfl) rfl (by repeat (first | exact Has.here | apply Has.there)) rfl) rfl ?_) | (refine Exec.stab rfl (Stab.loadW rfl (tysOk.get rfl) rfl (by repeat (first | exact Has.here | apply Has.there)) rfl) rfl ?_))) | (with_reducible first | apply Tr.seq | apply Tr.region)))
  ((refine Tr.step rfl ?_))
  refine Exec.callP rfl (run_fn M _ k h A c l hl) (List.Perm.refl _) rfl (fun v M1 A' hm hR => ?_) (fun ch M' A' hm hR => ?_)
  rotate_left
  · obtain ⟨rfl, rfl, hn⟩ := hR
    (repeat ((with_reducible refine Tr.then_panic ?_)))
    exact Tr.doneP (A' := [box b4 34 [.slice none 0 0]]) hm (DropL.skip (DropL.skip DropL.refl)) ⟨rfl, hn, rfl⟩
  obtain ⟨rfl, s, hrun, hS⟩ := hR
  obtain ⟨n1, n2, n3, n4⟩ := run_len hrun
  obtain ⟨hfb, -, -⟩ := run_keep hrun
  have hr64 := hfb.2.1
  have hS0 := hS
  obtain ⟨Bf, kf, Ba, ka, Bd, kd, Bn, kn, Bu, ku, Bb, kb, rfl, q1, q2, q3, q4, q5, q6⟩ := hS
  (repeat (first | ((with_reducible refine Tr.step rfl ?_); (first | ((with_reducible refine Knd.move ?_); (refine Exec.stab rfl (Stab.move rfl) rfl ?_)) | ((with_reducible refine Knd.load ?_); (refine Exec.stab rfl (Stab.load rfl (tysOk.get rfl) rfl (by repeat (first | exact Has.here | apply Has.there)) rfl) rfl ?_)) | ((with_reducible refine Knd.fieldAddr ?_); (refine Exec.stab rfl (Stab.fieldZ rfl (tysOk.get rfl) rfl rfl (tysOk.get rfl) rfl) rfl ?_)) | ((with_reducible refine Knd.len ?_); (refine Exec.stab rfl (Stab.len rfl (tysOk.get rfl) rfl) rfl ?_)) | ((with_reducible refine Knd.store ?_); (refine Exec.storeW rfl rfl (tysOk.get rfl) (by repeat (first | exact Upd.here | apply Upd.there)) rfl rfl (by repeat (first | exact AllOne.nil | refine AllOne.cons (by first | rfl | assumption) ?_)) ?_)) | ((with_reducible refine Knd.alloc ?_); (refine Exec.alloc (tysOk.get rfl) rfl rfl (fun b => ?_))))) | (with_reducible first | apply Tr.next | apply Tr.seq | apply Tr.region | apply Tr.nil | apply Tr.block)))
  generalize b = b5
  simp only [List.cons_append, List.nil_append, List.append_eq]
  refine Tr.own_nil 52 2 ?_
  refine Tr.loop (α := Nat × Mem × Option Addr × Nat × List Value) (fun y => ⟨30, [(12, .int .i64 (y.1 : Int)), (11, .int .i64 (s.br.length : Int)), (10, .slice Bb s.br.length kb), (3, .pointer (some ⟨b5, 0, none⟩)), (0, .pointer (some ⟨b2, 0, none⟩)), (1, .pointer (some ⟨b3, 0, none⟩)), (2, .pointer (some ⟨b4, 0, none⟩))], [], y.2.1,
      ownS 52 2 y.2.2.1 (brkN k l s y.1).length y.2.2.2.1 y.2.2.2.2 :: box b5 64 [.slice Bf (fxB k).fits.length kf, .slice Ba s.am.length ka, .slice Bd s.dy.length kd, .slice Bn s.nd.length kn, .slice Bu (fxB k).due.length ku, .slice Bb s.br.length kb] :: box b2 27 [v1, v2, v3, v4, v5] :: box b3 28 [.slice A l.length c] :: box b4 34 [.slice y.2.2.1 (brkN k l s y.1).length y.2.2.2.1] :: F⟩)
    (fun y => y.1 ≤ s.br.length ∧ Mem.le M1 y.2.1 ∧ y.2.2.2.1 ≤ 9223372036854775807 ∧ Elems 2 RBr y.2.1 y.2.2.2.2 (brkN k l s y.1)) (fun y => s.br.length - y.1) (0, M1, none, 0, []) ⟨Nat.zero_le _, Mem.le.refl _, by show (0 : Nat) ≤ _; omega, Elems.nil⟩ (holds_sub (by repeat (first | exact SubFr.nil | refine SubFr.cons rfl ?_)) (by repeat (first | exact DropL.refl | apply DropL.skip))) (fun y hy => ?_)
  obtain ⟨i, M2, A1, c1, cells⟩ := y
  obtain ⟨hi, hm2, hc1, hel⟩ := hy
  dsimp only at hi hm2 hc1 hel
  dsimp only
  have hbl := brkN_len k l s i
  by_cases hlt : i < s.br.length
  · obtain ⟨z, hz⟩ := get_of_lt (xs := s.br) (i := i) hlt
    have hnx := brkN_succ k l s i
    have hzd := getD_of (d := (0 : Int)) hz
    obtain ⟨hAb, hatb⟩ := Ints.at (q6.mono RI.mono hm2) hz
    rw [hzd] at hnx
    by_cases h0 : 0 ≤ z
    · rw [if_pos h0] at hnx
      have hM2 := hm.trans hm2
      have hbe := because_fn M2 _ _ k (h.mono hM2) A c l (hl.mono RHp.mono hM2) s (hS0.mono hm2) hrun i (by omega) (by rw [hzd]; exact h0) hll
      (repeat (first | ((with_reducible refine Tr.step rfl ?_); (first | ((with_reducible refine Knd.move ?_); (refine Exec.stab rfl (Stab.move rfl) rfl ?_)) | ((with_reducible refine Knd.assign ?_); (refine Exec.stab rfl (Stab.assign rfl) rfl ?_)) | ((with_reducible refine Knd.load ?_); (refine Exec.stab rfl (Stab.loadM rfl (tysOk.get rfl) rfl (by assumption)) rfl ?_)) | ((with_reducible refine Knd.binOp ?_); (refine Exec.stab rfl (Stab.int rfl rfl rfl) rfl ?_)) | ((with_reducible refine Knd.indexAddr ?_); (refine Exec.stab rfl (Stab.indexAddr rfl rfl (tysOk.get rfl) rfl (tysOk.get rfl) rfl (by omega) (by omega) (by first | rfl | assumption)) rfl ?_)))) | (with_reducible first | apply Tr.next | apply Tr.seq | apply Tr.region | apply Tr.nil | apply Tr.skip | apply Tr.block) | (refine Tr.cond_t rfl (by first | (with_reducible assumption) | omega) ?_)))
      (((apply Tr.draw); (kernel_rfl)); (refine TrA.take 0 (by kernel_rfl) rfl (by kernel_rfl) (by exact fun _ _ _ h => h) (by exact fun _ h => h) rfl (by exact Stab.load rfl (tysOk.get rfl) rfl (by repeat (first | exact Has.here | apply Has.there)) rfl) rfl rfl ?_); (refine TrA.take 1 (by kernel_rfl) rfl (by kernel_rfl) (by exact fun _ _ _ h => h) (by exact fun _ h => h) rfl (by first | exact Stab.move rfl) rfl rfl ?_); (refine TrA.take 2 (by kernel_rfl) rfl (by kernel_rfl) (by exact fun _ _ _ h => h) (by exact fun _ h => h) rfl (by exact Stab.loadW rfl (tysOk.get rfl) rfl (by repeat (first | exact Has.here | apply Has.there)) rfl) rfl rfl ?_); (refine TrA.take 3 (by kernel_rfl) rfl (by kernel_rfl) (by exact fun _ _ _ h => h) (by exact fun _ h => h) rfl (by exact Stab.load rfl (tysOk.get rfl) rfl (by repeat (first | exact Has.here | apply Has.there)) rfl) rfl rfl ?_); (refine TrA.take 4 (by kernel_rfl) rfl (by kernel_rfl) (by exact fun _ _ _ h => h) (by exact fun _ h => h) rfl (by exact Stab.loadW rfl (tysOk.get rfl) rfl (by repeat (first | exact Has.here | apply Has.there)) rfl) rfl rfl ?_); (refine TrA.take 5 (by kernel_rfl) rfl (by kernel_rfl) (by exact fun _ _ _ h => h) (by exact fun _ h => h) rfl (by first | exact Stab.move rfl) rfl rfl ?_); (refine TrA.eff 6 rfl (by kernel_rfl) (by exact .inl rfl) ?_))
      refine Exec.call0 rfl hbe rfl ?_
      rintro _ M3 hm3 ⟨A5, c5, rfl, hI⟩
      refine ⟨hm3, (by exact fun _ h => h), ?_⟩
      ((refine TrA.take 7 (by kernel_rfl) rfl (by kernel_rfl) (by exact fun _ _ _ h => h) (by exact fun _ h => h) rfl (by exact Stab.build tysOk rfl rfl rfl rfl (by repeat (first | exact BuildP.nil | ((apply BuildP.one); (rfl); (rfl); (first | rfl | assumption); (repeat (first | exact SetL.z | apply SetL.s)))))) rfl rfl ?_); (refine TrA.eff 8 rfl (by kernel_rfl) (by exact .inl rfl) ?_); (((refine Knd.buildSlice ?_); ((refine Exec.buildSlice (tysOk.get rfl) rfl (tysOk.get rfl) rfl rfl rfl rfl rfl (by repeat (first | exact BuildP.nil | ((apply BuildP.many); (rfl); (rfl); (rfl); (rfl); (repeat (first | exact PutL.nil | ((apply PutL.cons); (repeat (first | exact SetL.z | apply SetL.s)))))))) rfl (fun b => ?_))))); (refine ⟨(by first | exact Mem.le.refl _ | assumption), (by exact (Sub.mem (by repeat (first | exact Sub.refl | apply Sub.cons)))), ?_⟩); (refine TrA.effD 9 rfl (by kernel_rfl) (by kernel_rfl) (by exact .inl rfl) ?_))
      refine Exec.append (news := [.int .i64 (i : Int), .slice A5 (becF k l s.br i).length c5]) rfl rfl (tysOk.get rfl) rfl (tysOk.get rfl) rfl rfl rfl rfl (by repeat (first | exact Del.here | apply Del.there)) (Src.box (by repeat (first | exact Has.here | apply Has.there))) rfl (by intro u hu; simp at hu; rcases hu with rfl | rfl <;> rfl) (by omega) (by omega) rfl (fun A7 c7 hc7 => ?_)
      refine ⟨_, fun _ h => h, ?_⟩
      ((refine TrA.effD 10 rfl (by kernel_rfl) (by kernel_rfl) (by exact .inl rfl) ?_); (((refine Knd.store ?_); ((refine Exec.store rfl rfl (tysOk.get rfl) rfl (by first | rfl | assumption) (by repeat (first | exact Upd.here | apply Upd.there)) (by repeat (first | exact SetL.z | apply SetL.s)) ?_)))); (refine ⟨_, fun _ h => h, ?_⟩); (refine TrA.done (by kernel_rfl) ?_))
      refine Tr.give (r := box b _ _) (by repeat (first | exact Del.here | apply Del.there)) ?_
      have hel2 : Elems 2 RBr M3 (cells ++ [.int .i64 (i : Int), .slice A5 (becF k l s.br i).length c5]) (brkN k l s (i + 1)) := by
        rw [hnx]
        exact (hel.mono RBr.mono hm3).append (Elems.one rfl ⟨A5, c5, rfl, hI⟩)
      rw [show (brkN k l s i).length + 1 = (brkN k l s (i + 1)).length by rw [hnx, List.length_append]; rfl]
      (repeat (first | ((with_reducible refine Tr.step rfl ?_); (first | ((with_reducible refine Knd.move ?_); (refine Exec.stab rfl (Stab.move rfl) rfl ?_)) | ((with_reducible refine Knd.binOp ?_); (refine Exec.stab rfl (Stab.addi rfl rfl (by omega)) rfl ?_)))) | (with_reducible first | apply Tr.next | apply Tr.region | apply Tr.nil | apply Tr.in_normal)))
      exact Tr.again (i + 1, M3, A7, c7, _) ⟨by simp only; omega, hm2.trans hm3, hc7, hel2⟩ (by simp only; omega) (holds_sub (by repeat (first | exact SubFr.nil | refine SubFr.cons rfl ?_)) (by repeat (first | exact DropL.refl | apply DropL.skip)))
    · rw [if_neg h0, List.append_nil] at hnx
      rw [← hnx]
      (repeat (first | ((with_reducible refine Tr.step rfl ?_); (first | ((with_reducible refine Knd.move ?_); (refine Exec.stab rfl (Stab.move rfl) rfl ?_)) | ((with_reducible refine Knd.assign ?_); (refine Exec.stab rfl (Stab.assign rfl) rfl ?_)) | ((with_reducible refine Knd.load ?_); (refine Exec.stab rfl (Stab.loadM rfl (tysOk.get rfl) rfl (by assumption)) rfl ?_)) | ((with_reducible refine Knd.binOp ?_); (first | (refine Exec.stab rfl (Stab.addi rfl rfl (by omega)) rfl ?_) | (refine Exec.stab rfl (Stab.int rfl rfl rfl) rfl ?_))) | ((with_reducible refine Knd.indexAddr ?_); (refine Exec.stab rfl (Stab.indexAddr rfl rfl (tysOk.get rfl) rfl (tysOk.get rfl) rfl (by omega) (by omega) (by first | rfl | assumption)) rfl ?_)))) | (with_reducible first | apply Tr.next | apply Tr.seq | apply Tr.region | apply Tr.nil | apply Tr.skip | apply Tr.block | apply Tr.in_normal) | (refine Tr.cond_t rfl (by first | (with_reducible assumption) | omega) ?_) | (refine Tr.cond_f rfl (by (with_reducible assumption)) ?_)))
      exact Tr.again (i + 1, M2, A1, c1, cells) ⟨by simp only; omega, hm2, hc1, by rw [hnx]; exact hel⟩ (by simp only; omega) (holds_sub (by repeat (first | exact SubFr.nil | refine SubFr.cons rfl ?_)) (by repeat (first | exact DropL.refl | apply DropL.skip)))
  have ei : s.br.length = i := by omega
  subst ei
  refine Tr.publish (r := ownS 52 2 A1 _ _ _) (by repeat (first | exact Del.here | apply Del.there)) (fun M3 hm3 ok3 => ?_)
  have i3 := SlOf.ofOwn ok3 rfl hc1 (hel.mono RBr.mono hm3)
  have hlast := hm.trans (hm2.trans hm3)
  (repeat (first | ((with_reducible refine Tr.step rfl ?_); (with_reducible refine Knd.binOp ?_); (refine Exec.stab rfl (Stab.int rfl rfl rfl) rfl ?_)) | (with_reducible first | apply Tr.next | apply Tr.seq | apply Tr.region | apply Tr.nil | apply Tr.exit | apply Tr.then_exit) | ((with_reducible refine Tr.in_exit ?_ ?_); (exact rfl)) | (refine Tr.cond_f rfl (by first | (with_reducible assumption) | omega) ?_)))
  refine Tr.ofPost ?_
  exact Tr.doneB (A' := [box b4 34 [.slice A1 (brkF k l s).length c1]]) [_, _, _] (by first | exact .inl rfl | exact .inr rfl) rfl (by repeat (exact RVs.nil)) hlast (List.Perm.refl _) ⟨s, A1, c1, hrun, i3, rfl⟩
end Go.Proofs.Ytgnipfjjkliibaa

/-
  Honour: Broken; the state of a result.
  Conditions: none.
-/
namespace Go.Proofs.Ytgnipfjjkliibaa
open Go Bf
attribute [local irreducible] Tr Exec Stab HasTy Go.Addr.add IntKind.wrap
/-- what Broken answers -/
noncomputable def brokenF (k : Bk) (l : List Hp) : List (Nat × List Nat) × Int := match runF k l with
  | some s => (brkF k l s, 0)
  | none => ([], 330)
set_option maxHeartbeats 4000000 in
theorem broken_fn (M : Mem) (v : Value) (k : Bk) (h : RBk M v k) (A : Option Addr) (c : Nat) (l : List Hp) (hl : SlOf 5 RHp M (.slice A l.length c) l) (hll : l.length ≤ 1000) :
    Fn0 Try.prog 13 [v, .slice A l.length c] M (fun r M' => ∃ A9 c9, r = .tuple #[.slice A9 (brokenF k l).1.length c9, .int .i64 (brokenF k l).2] ∧ SlOf 2 RBr M' (.slice A9 (brokenF k l).1.length c9) (brokenF k l).1) := by
  obtain ⟨v1, v2, v3, v4, v5, rfl, o1, o2, o3, o4, o5⟩ := h.open5
  refine Fn.intro Try.func13 rfl rfl Try.ntmps13 rfl fun E F => ?_
  (repeat (first | ((with_reducible refine Tr.step rfl ?_); (first | ((with_reducible refine Knd.assign ?_); (refine Exec.stab rfl (Stab.assign rfl) rfl ?_)) | ((with_reducible refine Knd.makeFunc ?_); (refine Exec.stab rfl (Stab.makeFunc rfl rfl) rfl ?_)) | ((with_reducible refine Knd.box ?_); (first | (refine Exec.box rfl rfl (fun b => ?_)) | (refine Exec.box1 rfl (by first | rfl | assumption) rfl (fun b => ?_)))) | ((with_reducible refine Knd.alloc ?_); (refine Exec.alloc1 (tysOk.get rfl) rfl rfl rfl (fun b => ?_))))) | (with_reducible first | apply Tr.next | apply Tr.seq | apply Tr.region | apply Tr.nil)))
  generalize b = b4
  rename_i b2 b3
  ((refine Tr.step rfl ?_))
  refine Exec.call (A := [box b2 27 [v1, v2, v3, v4, v5], box b3 28 [.slice A l.length c], box b4 34 [.slice none 0 0]]) rfl (attempt_fn M 30 [.pointer (some ⟨b2, 0, none⟩), .pointer (some ⟨b3, 0, none⟩), .pointer (some ⟨b4, 0, none⟩)] _ _ _ (broken1_fn M k v1 v2 v3 v4 v5 h A c l hl hll b2 b3 b4) (fun ch M' A' h => h.1)) (rev3 _ _ _ _) rfl ?_
  rintro r M' A' hm (⟨rfl, -, s, A9, c9, hs, hB, rfl⟩ | ⟨rfl, -, hn, rfl⟩)
  · simp only [List.cons_append, List.nil_append]
    (repeat (first | ((with_reducible refine Tr.step rfl ?_); (first | ((with_reducible refine Knd.move ?_); (refine Exec.stab rfl (Stab.move rfl) rfl ?_)) | ((with_reducible refine Knd.assign ?_); (refine Exec.stab rfl (Stab.assign rfl) rfl ?_)) | ((with_reducible refine Knd.load ?_); (refine Exec.stab rfl (Stab.load rfl (tysOk.get rfl) rfl (by repeat (first | exact Has.here | apply Has.there)) rfl) rfl ?_)) | ((with_reducible refine Knd.store ?_); (refine Exec.store rfl rfl (tysOk.get rfl) rfl (by first | rfl | assumption) (by repeat (first | exact Upd.here | apply Upd.there)) (by repeat (first | exact SetL.z | apply SetL.s)) ?_)))) | (with_reducible first | apply Tr.next | apply Tr.seq | apply Tr.region | apply Tr.nil | apply Tr.ret)))
    (refine Tr.done (by first | exact .inl rfl | exact .inr rfl) rfl (by repeat (first | exact RVs.nil | (apply RVs.cons; (first | exact RV.tmp rfl | exact RV.cell (by rfl) (tysOk.get (by rfl)) (by rfl) (by repeat (first | exact Has.here | apply Has.there)))))) (by first | exact Mem.le.refl _ | assumption) (by exact ⟨[_], rfl⟩) ⟨rfl, ?_⟩)
    rw [brokenF, hs]
    exact ⟨A9, c9, rfl, hB⟩
  · simp only [List.cons_append, List.nil_append]
    (repeat (first | ((with_reducible refine Tr.step rfl ?_); (first | ((with_reducible refine Knd.move ?_); (refine Exec.stab rfl (Stab.move rfl) rfl ?_)) | ((with_reducible refine Knd.assign ?_); (refine Exec.stab rfl (Stab.assign rfl) rfl ?_)) | ((with_reducible refine Knd.load ?_); (refine Exec.stab rfl (Stab.load rfl (tysOk.get rfl) rfl (by repeat (first | exact Has.here | apply Has.there)) rfl) rfl ?_)) | ((with_reducible refine Knd.store ?_); (refine Exec.store rfl rfl (tysOk.get rfl) rfl (by first | rfl | assumption) (by repeat (first | exact Upd.here | apply Upd.there)) (by repeat (first | exact SetL.z | apply SetL.s)) ?_)))) | (with_reducible first | apply Tr.next | apply Tr.seq | apply Tr.region | apply Tr.nil | apply Tr.ret)))
    (refine Tr.done (by first | exact .inl rfl | exact .inr rfl) rfl (by repeat (first | exact RVs.nil | (apply RVs.cons; (first | exact RV.tmp rfl | exact RV.cell (by rfl) (tysOk.get (by rfl)) (by rfl) (by repeat (first | exact Has.here | apply Has.there)))))) (by first | exact Mem.le.refl _ | assumption) (by exact ⟨[_], rfl⟩) ⟨rfl, ?_⟩)
    rw [brokenF, hn]
    exact ⟨none, 0, rfl, SlOf.nil _ _ _⟩
/-! the state of a result -/
theorem list_eq {α : Type} {l m : List α} (d : α) (hl : l.length = m.length) (h : ∀ i, i < l.length → l.getD i d = m.getD i d) : l = m := by
  apply List.ext_getElem hl
  intro i h1 h2
  have := h i h1
  rwa [List.getD_eq_getElem?_getD, List.getD_eq_getElem?_getD, List.getElem?_eq_getElem h1, List.getElem?_eq_getElem h2] at this
theorem res_len (k : Bk) (s : St) : (resF k s).sups.length = k.sups.length ∧ (resF k s).reqs.length = k.reqs.length := by simp [resF]
theorem res_am {k : Bk} {s : St} (h : s.am.length = k.sups.length) : (beginF (resF k s)).am = s.am := by
  refine list_eq 0 (by simp [beginF, resF, h]) (fun i hi => ?_)
  have hi2 : i < k.sups.length := by simpa [beginF, resF] using hi
  simp [beginF, resF, setSup, List.getD_eq_getElem?_getD, hi2]
theorem res_dy {k : Bk} {s : St} (h : s.dy.length = k.sups.length) : (beginF (resF k s)).dy = s.dy := by
  refine list_eq 0 (by simp [beginF, resF, h]) (fun i hi => ?_)
  have hi2 : i < k.sups.length := by simpa [beginF, resF] using hi
  simp [beginF, resF, setSup, List.getD_eq_getElem?_getD, hi2]
theorem res_nd {k : Bk} {s : St} (h : s.nd.length = k.reqs.length) (hb : s.br.length = k.reqs.length) : (beginF (resF k s)).nd = mskL s.nd (askF s) := by
  refine list_eq 0 (by simp [beginF, resF, mskL, h]) (fun i hi => ?_)
  have hi2 : i < k.reqs.length := by simpa [beginF, resF] using hi
  rw [mskL_getD]
  have : askF s i = decide (s.br.getD i 0 < 0) := by rw [askF, hb, decide_eq_true hi2, Bool.true_and]
  rw [this]
  have e : (beginF (resF k s)).nd.getD i 0 = if 0 ≤ s.br.getD i 0 then 0 else s.nd.getD i 0 := by
    simp [beginF, resF, setReq, List.getD_eq_getElem?_getD, hi2]
  rw [e]
  by_cases c : 0 ≤ s.br.getD i 0
  · rw [if_pos c, if_neg (by rw [decide_eq_true_iff]; omega)]
  · rw [if_neg c, if_pos (by rw [decide_eq_true_iff]; omega)]
theorem res_due (k : Bk) (s : St) : (fxB (resF k s)).due = (fxB k).due := by
  refine list_eq 0 (by simp [fxB, resF]) (fun i hi => ?_)
  have hi2 : i < k.reqs.length := by simpa [fxB, resF] using hi
  simp [fxB, resF, setReq, List.getD_eq_getElem?_getD, hi2]
theorem res_fits (k : Bk) (s : St) : (fxB (resF k s)).fits = tabL (fxB k).fits (fxB k).due s.dy := rfl
theorem mskL_rng {nd : List Int} {S : Nat → Bool} (h : ∀ a ∈ nd, 0 ≤ a ∧ a ≤ 1048576) : ∀ a ∈ mskL nd S, 0 ≤ a ∧ a ≤ 1048576 := fun a ha => by
  simp only [mskL, List.mem_map, List.mem_range] at ha
  obtain ⟨i, hi, rfl⟩ := ha
  split
  · exact getD_rng h i
  · omega
theorem res_vld {x : Fx} {s : St} (h : Fit x s) : Vld (tabL x.fits x.due s.dy) s.am (mskL s.nd (askF s)) :=
  ⟨h.l64, by rw [mskL_length]; exact h.r64, by rw [tabL_length]; exact h.dyl, fun r hr => by rw [tabL_row hr, mskL_length]; exact h.dul, h.amr, mskL_rng h.ndr⟩
theorem allocOf_unique {fits : List (List Bool)} {sup need : List Int} {a a' : Nat → Nat → Int} (h : LexMax (pbOf fits sup need) a) (h' : LexMax (pbOf fits sup need) a') : allocOf a need.length sup.length = allocOf a' need.length sup.length := by
  unfold allocOf
  apply List.map_congr_left
  intro i hi
  apply List.map_congr_left
  intro j hj
  exact h.unique h' i (List.mem_range.1 hi) j (List.mem_range.1 hj)
open Classical in
/-- what Flow gives, if all can be met -/
noncomputable def alF (fits : List (List Bool)) (sup need : List Int) : List (List Int) := if h : ∃ a, LexMax (pbOf fits sup need) a then allocOf (Classical.choose h) need.length sup.length else []
theorem alF_eq {fits : List (List Bool)} {sup need : List Int} {a : Nat → Nat → Int} (h : LexMax (pbOf fits sup need) a) : alF fits sup need = allocOf a need.length sup.length := by
  have he : ∃ a, LexMax (pbOf fits sup need) a := ⟨a, h⟩
  unfold alF
  rw [dif_pos he]
  exact allocOf_unique (Classical.choose_spec he) h
end Go.Proofs.Ytgnipfjjkliibaa

/-
  Honour: Ship.
  Conditions: none.
-/
namespace Go.Proofs.Ytgnipfjjkliibaa
open Go Bf
attribute [local irreducible] Tr Exec Stab HasTy Go.Addr.add IntKind.wrap
def hpC (h : Hp) : List Value := [.int .i64 h.kind, .int .i64 h.sup, .int .i64 h.req, .int .i64 h.day, .int .i64 h.amt]
theorem hpC_len (h : Hp) : (hpC h).length = 5 := rfl
def amv (am : List (List Int)) (i j : Nat) : Int := (am.getD i []).getD j 0
def shIn (am : List (List Int)) (j : Nat) (day : Int) (n : Nat) : List Hp := (List.range n).flatMap fun i => if 0 < amv am i j then [⟨3, (i : Int), (j : Int), day, amv am i j⟩] else []
def shOut (am : List (List Int)) (reqs : List Rq) (day : Int) (ns m : Nat) : List Hp := (List.range m).flatMap fun j => if (reqs.map (·.due)).getD j 0 = day then shIn am j day ns else []
theorem shIn_succ (am : List (List Int)) (j : Nat) (day : Int) (n : Nat) : shIn am j day (n + 1) = shIn am j day n ++ if 0 < amv am n j then [⟨3, (n : Int), (j : Int), day, amv am n j⟩] else [] := by
  rw [shIn, List.range_succ, List.flatMap_append, shIn]
  simp
theorem shOut_succ (am : List (List Int)) (reqs : List Rq) (day : Int) (ns m : Nat) : shOut am reqs day ns (m + 1) = shOut am reqs day ns m ++ if (reqs.map (·.due)).getD m 0 = day then shIn am m day ns else [] := by
  rw [shOut, List.range_succ, List.flatMap_append, shOut]
  simp
theorem shIn_len (am : List (List Int)) (j : Nat) (day : Int) (n : Nat) : (shIn am j day n).length ≤ n := by
  induction n with
  | zero => exact Nat.le_refl _
  | succ n ih =>
    rw [shIn_succ, List.length_append]
    split
    · rw [List.length_singleton]; omega
    · rw [List.length_nil]; omega
theorem shOut_len (am : List (List Int)) (reqs : List Rq) (day : Int) (ns m : Nat) : (shOut am reqs day ns m).length ≤ m * ns := by
  induction m with
  | zero => exact Nat.zero_le _
  | succ m ih =>
    rw [shOut_succ, List.length_append, Nat.succ_mul]
    have := shIn_len am m day ns
    split
    · omega
    · rw [List.length_nil]; omega
/-- what is shipped of a book -/
noncomputable def shipsOf (y : Bk) (day : Int) : List Hp := shOut (alF y.fits (beginF y).am (beginF y).nd) y.reqs day y.sups.length y.reqs.length
/-- what Ship answers -/
noncomputable def shipL (k : Bk) (l : List Hp) (day : Int) : List Hp × Int := match runF k l with
  | some s => if 0 ≤ day ∧ day ≤ 1023 then (shipsOf (resF k s) day, 0) else ([], 330)
  | none => ([], 330)
/-- if something is shipped, there is a greatest allocation -/
def ShipEx (k : Bk) (l : List Hp) (day : Int) : Prop := ∀ s, runF k l = some s → 0 ≤ day ∧ day ≤ 1023 → ∃ a, LexMax (pbOf (resF k s).fits (beginF (resF k s)).am (beginF (resF k s)).nd) a
theorem i64s_of {l : List Int} (h : ∀ a ∈ l, 0 ≤ a ∧ a ≤ 1048576) : I64s l := fun a ha => by have := h a ha; omega
set_option maxHeartbeats 16000000 in
theorem ship0_fn (M : Mem) (v : Value) (k : Bk) (h : RBk M v k) (A : Option Addr) (c : Nat) (l : List Hp) (hl : SlOf 5 RHp M (.slice A l.length c) l) (day : Int) :
    Fn0 Try.prog 15 [v, .slice A l.length c, .int .i64 day] M (fun r M' => ∃ A9 c9, r = .tuple #[.slice A9 (shipL k l day).1.length c9, .int .i64 (shipL k l day).2] ∧ SlOf 5 RHp M' (.slice A9 (shipL k l day).1.length c9) (shipL k l day).1 ∧ ShipEx k l day) := by
  have hdo := do_fn M v k h A c l hl
  obtain ⟨v1, v2, v3, v4, v5, rfl, o1, o2, o3, o4, o5⟩ := h.open5
  refine Fn.intro Try.func15 rfl rfl Try.ntmps15 rfl fun E F => ?_
  (repeat (first | ((with_reducible refine Tr.step rfl ?_); (first | ((with_reducible refine Knd.move ?_); (refine Exec.stab rfl (Stab.move rfl) rfl ?_)) | ((with_reducible refine Knd.assign ?_); (refine Exec.stab rfl (Stab.assign rfl) rfl ?_)) | ((with_reducible refine Knd.load ?_); (refine Exec.stab rfl (Stab.loadW rfl (tysOk.get rfl) rfl (by repeat (first | exact Has.here | apply Has.there)) rfl) rfl ?_)) | ((with_reducible refine Knd.box ?_); (refine Exec.box rfl rfl (fun b => ?_))))) | (with_reducible first | apply Tr.next | apply Tr.seq | apply Tr.region | apply Tr.nil)))
  ((refine Tr.step rfl ?_))
  refine Exec.call0 rfl hdo rfl ?_
  rintro _ M1 hm1 ⟨w, rfl, hB⟩
  have hw := hB.open5
  obtain ⟨u1, u2, u3, u4, u5, rfl, p1, p2, p3, p4, p5⟩ := hw
  cases hrun : runF k l with
  | none =>
    have e1 : doF k l = (zB, 330) := by rw [doF, hrun]
    have e2 : shipL k l day = ([], 330) := by rw [shipL, hrun]
    rw [e1]
    rw [e2]
    dsimp only
    (repeat (first | ((with_reducible refine Tr.step rfl ?_); (first | ((with_reducible refine Knd.move ?_); (refine Exec.stab rfl (Stab.move rfl) rfl ?_)) | ((with_reducible refine Knd.assign ?_); (refine Exec.stab rfl (Stab.assign rfl) rfl ?_)) | ((with_reducible refine Knd.binOp ?_); (refine Exec.stab rfl (Stab.int rfl rfl rfl) rfl ?_)) | ((with_reducible refine Knd.store ?_); (refine Exec.storeW rfl rfl (tysOk.get rfl) (by repeat (first | exact Upd.here | apply Upd.there)) rfl rfl (by repeat (first | exact AllOne.nil | refine AllOne.cons (by first | rfl | assumption) ?_)) ?_)) | ((with_reducible refine Knd.alloc ?_); (refine Exec.alloc (tysOk.get rfl) rfl rfl (fun b => ?_))) | ((with_reducible refine Knd.extract ?_); (refine Exec.stab rfl (Stab.extract rfl rfl) rfl ?_)))) | (with_reducible first | apply Tr.next | apply Tr.seq | apply Tr.region | apply Tr.nil | apply Tr.ret | apply Tr.then_ret) | (refine Tr.cond_t rfl (by first | (with_reducible assumption) | omega) ?_)))
    (refine Tr.done (by first | exact .inl rfl | exact .inr rfl) rfl (by repeat (first | exact RVs.nil | (apply RVs.cons; (exact RV.tmp rfl)))) (by first | exact Mem.le.refl _ | assumption) (by exact ⟨[_, _], rfl⟩) ⟨rfl, ?_⟩)
    exact ⟨none, 0, rfl, SlOf.nil _ _ _, fun s hs => by rw [hrun] at hs; cases hs⟩
  | some s =>
  have e1 : doF k l = (resF k s, 0) := by rw [doF, hrun]
  rw [e1] at hB ⊢
  dsimp only at hB ⊢
  obtain ⟨hfb, hfit, hheld⟩ := run_keep hrun
  obtain ⟨n1, n2, n3, n4⟩ := run_len hrun
  (repeat (first | ((with_reducible refine Tr.step rfl ?_); (first | ((with_reducible refine Knd.move ?_); (refine Exec.stab rfl (Stab.move rfl) rfl ?_)) | ((with_reducible refine Knd.assign ?_); (refine Exec.stab rfl (Stab.assign rfl) rfl ?_)) | ((with_reducible refine Knd.binOp ?_); (refine Exec.stab rfl (Stab.int rfl rfl rfl) rfl ?_)) | ((with_reducible refine Knd.store ?_); (refine Exec.storeW rfl rfl (tysOk.get rfl) (by repeat (first | exact Upd.here | apply Upd.there)) rfl rfl (by repeat (first | exact AllOne.nil | refine AllOne.cons (by first | rfl | assumption) ?_)) ?_)) | ((with_reducible refine Knd.alloc ?_); (refine Exec.alloc (tysOk.get rfl) rfl rfl (fun b => ?_))) | ((with_reducible refine Knd.extract ?_); (refine Exec.stab rfl (Stab.extract rfl rfl) rfl ?_)))) | (with_reducible first | apply Tr.next | apply Tr.seq | apply Tr.region | apply Tr.nil | apply Tr.skip) | (refine Tr.cond_f rfl (by (with_reducible exact (not_not_intro rfl))) ?_)))
  ((refine Tr.step rfl ?_)); refine Exec.call0 rfl (between_fn M1 day 0 1023) rfl ?_
  rintro _ _ _ ⟨rfl, rfl⟩
  by_cases hd : 0 ≤ day ∧ day ≤ 1023
  rotate_left
  · have e2 : shipL k l day = ([], 330) := by rw [shipL, hrun]; exact if_neg hd
    rw [decide_eq_false hd, e2]
    (repeat (first | ((with_reducible refine Tr.step rfl ?_); (first | ((with_reducible refine Knd.assign ?_); (refine Exec.stab rfl (Stab.assign rfl) rfl ?_)) | ((with_reducible refine Knd.unOp ?_); (refine Exec.stab rfl (Stab.not rfl) rfl ?_)))) | (with_reducible first | apply Tr.next | apply Tr.seq | apply Tr.region | apply Tr.nil | apply Tr.ret | apply Tr.then_ret) | (refine Tr.cond_bt rfl (by first | (with_reducible rfl) | (with_reducible exact Bool.not_false)) ?_)))
    (refine Tr.done (by first | exact .inl rfl | exact .inr rfl) rfl (by repeat (first | exact RVs.nil | (apply RVs.cons; (exact RV.tmp rfl)))) (by first | exact Mem.le.refl _ | assumption) (by exact ⟨[_, _], rfl⟩) ⟨rfl, ?_⟩)
    exact ⟨none, 0, rfl, SlOf.nil _ _ _, fun _ _ h => absurd h hd⟩
  have e2 : shipL k l day = (shipsOf (resF k s) day, 0) := by rw [shipL, hrun]; exact if_pos hd
  rw [decide_eq_true hd, e2]
  have hB0 := hB
  obtain ⟨As, cs, Ar, cr, Af, cf, Ad, cd, ev, h1, h2, h3⟩ := hB
  injection ev with ev
  simp only [Array.mk.injEq, List.cons.injEq, and_true] at ev
  obtain ⟨rfl, rfl, rfl, rfl, rfl⟩ := ev
  have hbe := fun M2 hm2 => hbegin_fn M2 _ (resF k s) (hB0.mono hm2) (by rw [(res_len k s).1]; have := hfb.1; omega) (by rw [(res_len k s).2]; have := hfb.2.1; omega)
  (repeat (first | ((with_reducible refine Tr.step rfl ?_); (first | ((with_reducible refine Knd.load ?_); (refine Exec.stab rfl (Stab.loadW rfl (tysOk.get rfl) rfl (by repeat (first | exact Has.here | apply Has.there)) rfl) rfl ?_)) | ((with_reducible refine Knd.unOp ?_); (refine Exec.stab rfl (Stab.not rfl) rfl ?_)))) | (with_reducible first | apply Tr.next | apply Tr.seq | apply Tr.region | apply Tr.nil | apply Tr.skip) | (refine Tr.cond_bf rfl (by first | (with_reducible rfl) | (with_reducible exact Bool.not_true)) ?_)))
  ((refine Tr.step rfl ?_)); refine Exec.call0 rfl (hbe M1 (Mem.le.refl _)) rfl ?_
  rintro r2 M2 hm2 ⟨Bf, kf, Ba, ka, Bd, kd, Bn, kn, Bu, ku, Bb, kb, rfl, q1, q2, q3, q4, q5, q6⟩
  have hv := res_vld hfit
  have eam := res_am n1
  have end_ := res_nd n2 n4
  have hfe : Feas (pbOf (resF k s).fits (beginF (resF k s)).am (beginF (resF k s)).nd) := by
    rw [eam, end_]; exact hheld
  have hvv : Vld (resF k s).fits (beginF (resF k s)).am (beginF (resF k s)).nd := by
    rw [eam, end_]; exact hv
  (repeat (first | ((with_reducible refine Tr.step rfl ?_); (first | ((with_reducible refine Knd.load ?_); (refine Exec.stab rfl (Stab.load rfl (tysOk.get rfl) rfl (by repeat (first | exact Has.here | apply Has.there)) rfl) rfl ?_)) | ((with_reducible refine Knd.fieldAddr ?_); (refine Exec.stab rfl (Stab.fieldZ rfl (tysOk.get rfl) rfl rfl (tysOk.get rfl) rfl) rfl ?_)) | ((with_reducible refine Knd.store ?_); (refine Exec.storeW rfl rfl (tysOk.get rfl) (by repeat (first | exact Upd.here | apply Upd.there)) rfl rfl (by repeat (first | exact AllOne.nil | refine AllOne.cons (by first | rfl | assumption) ?_)) ?_)) | ((with_reducible refine Knd.alloc ?_); (refine Exec.alloc (tysOk.get rfl) rfl rfl (fun b => ?_))))) | (with_reducible first | apply Tr.next | apply Tr.seq | apply Tr.region | apply Tr.nil)))
  ((refine Tr.step rfl ?_)); refine Exec.call0 rfl (flow_fn M2 Af Ba Bn cf ka kn (resF k s).fits (beginF (resF k s)).am (beginF (resF k s)).nd (h3.mono RRowB.mono hm2) q2 q4 (i64s_of hvv.rs) (i64s_of hvv.rn)) rfl ?_
  rintro r3 M3 hm3 hfl
  rcases hfl with ⟨hbad, rfl⟩ | ⟨-, hnf, -⟩ | ⟨-, a, hmax, B1, k1, rfl, hI⟩
  · rw [vld_iff.2 hvv] at hbad; cases hbad
  · exact absurd hfe hnf
  have hex : ShipEx k l day := fun s' hs' _ => by rw [hrun] at hs'; cases hs'; exact ⟨a, hmax⟩
  have eal := alF_eq hmax
  have hns : (beginF (resF k s)).am.length = (resF k s).sups.length := (begin_len _).1
  have hnr : (beginF (resF k s)).nd.length = (resF k s).reqs.length := (begin_len _).2.1
  have hlen : (alF (resF k s).fits (beginF (resF k s)).am (beginF (resF k s)).nd).length = (resF k s).sups.length := by rw [eal, allocOf_length, hns]
  have hrowl : ∀ i (r : List Int), (alF (resF k s).fits (beginF (resF k s)).am (beginF (resF k s)).nd)[i]? = some r → r.length = (resF k s).reqs.length := fun i r hr => by
    rw [eal] at hr
    have := List.mem_of_getElem? hr
    simp only [allocOf, List.mem_map, List.mem_range] at this
    obtain ⟨i', -, rfl⟩ := this
    rw [← hnr]
    simp [rowOf]
  rw [← eal] at hI ⊢
  rw [shipsOf]
  rw [hlen] at hI ⊢
  have s64 : (resF k s).sups.length ≤ 64 := by rw [(res_len k s).1]; exact hfb.1
  have r64 : (resF k s).reqs.length ≤ 64 := by rw [(res_len k s).2]; exact hfb.2.1
  have h2' := h2.mono RRq.mono (hm2.trans hm3)
  generalize alF (resF k s).fits (beginF (resF k s)).am (beginF (resF k s)).nd = am at hI hlen hrowl
  (repeat (first | ((with_reducible refine Tr.step rfl ?_); (first | ((with_reducible refine Knd.move ?_); (refine Exec.stab rfl (Stab.move rfl) rfl ?_)) | ((with_reducible refine Knd.assign ?_); (refine Exec.stab rfl (Stab.assign rfl) rfl ?_)) | ((with_reducible refine Knd.load ?_); (refine Exec.stab rfl (Stab.load rfl (tysOk.get rfl) rfl (by repeat (first | exact Has.here | apply Has.there)) rfl) rfl ?_)) | ((with_reducible refine Knd.fieldAddr ?_); (refine Exec.stab rfl (Stab.fieldZ rfl (tysOk.get rfl) rfl rfl (tysOk.get rfl) rfl) rfl ?_)) | ((with_reducible refine Knd.len ?_); (refine Exec.stab rfl (Stab.len rfl (tysOk.get rfl) rfl) rfl ?_)) | ((with_reducible refine Knd.binOp ?_); (refine Exec.stab rfl (Stab.int rfl rfl rfl) rfl ?_)) | ((with_reducible refine Knd.extract ?_); (refine Exec.stab rfl (Stab.extract rfl rfl) rfl ?_)))) | (with_reducible first | apply Tr.next | apply Tr.seq | apply Tr.region | apply Tr.nil | apply Tr.skip | apply Tr.block) | (refine Tr.cond_f rfl (by (with_reducible exact (not_not_intro rfl))) ?_)))
  refine Tr.less [(49, .int .i64 0), (48, .int .i64 ((resF k s).reqs.length : Int)), (47, .slice Ar (resF k s).reqs.length cr), (6, .slice none 0 0), (10, .slice B1 (resF k s).sups.length k1), (2, .int .i64 day)] F (by repeat (first | exact SubFr.nil | refine SubFr.cons rfl ?_)) (by repeat (first | exact DropL.refl | apply DropL.skip)) ?_
  clear hbe hmax hvv hfe hB0 h3 q1 q2 q3 q4 q5 q6 hdo h1 h2
  have hM3 := hm1.trans (hm2.trans hm3)
  generalize hY : resF k s = Y at s64 r64 h2' hI hlen hrowl
  refine Tr.own_nil 44 5 ?_
  refine Tr.loop (α := Nat × Option Addr × Nat) (fun y => ⟨84, [(49, .int .i64 (y.1 : Int)), (48, .int .i64 (Y.reqs.length : Int)), (47, .slice Ar Y.reqs.length cr), (6, .slice y.2.1 (shOut am Y.reqs day Y.sups.length y.1).length y.2.2), (10, .slice B1 Y.sups.length k1), (2, .int .i64 day)], [], M3,
      ownS 44 5 y.2.1 (shOut am Y.reqs day Y.sups.length y.1).length y.2.2 ((shOut am Y.reqs day Y.sups.length y.1).flatMap hpC) :: F⟩)
    (fun y => y.1 ≤ Y.reqs.length ∧ y.2.2 ≤ 9223372036854775807) (fun y => Y.reqs.length - y.1) (0, none, 0) ⟨Nat.zero_le _, by show (0 : Nat) ≤ _; omega⟩ (holds_sub (by repeat (first | exact SubFr.nil | refine SubFr.cons rfl ?_)) (by repeat (first | exact DropL.refl | apply DropL.skip))) (fun y hy => ?_)
  obtain ⟨j, A1, c1⟩ := y
  obtain ⟨hj, hc1⟩ := hy
  dsimp only at hj hc1
  dsimp only
  have hol := shOut_len am Y.reqs day Y.sups.length j
  have hol2 : j * Y.sups.length ≤ 64 * 64 := Nat.mul_le_mul (by omega) s64
  by_cases hlt : j < Y.reqs.length
  rotate_left
  · have ej : Y.reqs.length = j := by omega
    subst ej
    refine Tr.publish (r := ownS 44 5 A1 _ _ _) (by repeat (first | exact Del.here | apply Del.there)) (fun M4 hm4 ok4 => ?_)
    have i4 := SlOf.ofOwn ok4 rfl hc1 (Elems.flat (R := RHp) hpC_len (fun _ => rfl) _)
    have hlast := hM3.trans hm4
    (repeat (first | ((with_reducible refine Tr.step rfl ?_); (first | ((with_reducible refine Knd.move ?_); (refine Exec.stab rfl (Stab.move rfl) rfl ?_)) | ((with_reducible refine Knd.assign ?_); (refine Exec.stab rfl (Stab.assign rfl) rfl ?_)) | ((with_reducible refine Knd.binOp ?_); (refine Exec.stab rfl (Stab.int rfl rfl rfl) rfl ?_)))) | (with_reducible first | apply Tr.next | apply Tr.seq | apply Tr.region | apply Tr.nil | apply Tr.exit | apply Tr.ret | apply Tr.then_exit) | ((with_reducible refine Tr.in_exit ?_ ?_); (exact rfl)) | (refine Tr.cond_f rfl (by first | (with_reducible assumption) | omega) ?_)))
    (refine Tr.done (by first | exact .inl rfl | exact .inr rfl) rfl (by repeat (first | exact RVs.nil | (apply RVs.cons; (exact RV.tmp rfl)))) (by first | exact Mem.le.refl _ | assumption) (by exact ⟨[], rfl⟩) ⟨rfl, ?_⟩)
    exact ⟨A1, c1, rfl, i4, hex⟩
  obtain ⟨r, hr⟩ := get_of_lt hlt
  obtain ⟨hA, ch, hat, rfl⟩ := h2'.elem hr
  have hnx := shOut_succ am Y.reqs day Y.sups.length j
  have hdue : (Y.reqs.map (·.due)).getD j 0 = r.due := by simp [List.getD_eq_getElem?_getD, hr]
  rw [hdue] at hnx
  by_cases hday : r.due = day
  rotate_left
  · rw [if_neg hday, List.append_nil] at hnx
    rw [← hnx]
    (repeat (first | ((with_reducible refine Tr.step rfl ?_); (first | ((with_reducible refine Knd.move ?_); (refine Exec.stab rfl (Stab.move rfl) rfl ?_)) | ((with_reducible refine Knd.assign ?_); (refine Exec.stab rfl (Stab.assign rfl) rfl ?_)) | ((with_reducible refine Knd.load ?_); (first | (refine Exec.stab rfl (Stab.load rfl (tysOk.get rfl) rfl (by repeat (first | exact Has.here | apply Has.there)) rfl) rfl ?_) | (refine Exec.stab rfl (Stab.loadMA rfl (tysOk.get rfl) rfl (by assumption) (by first | rfl | assumption)) rfl ?_))) | ((with_reducible refine Knd.fieldAddr ?_); (refine Exec.stab rfl (Stab.fieldZ rfl (tysOk.get rfl) rfl rfl (tysOk.get rfl) rfl) rfl ?_)) | ((with_reducible refine Knd.binOp ?_); (first | (refine Exec.stab rfl (Stab.addi rfl rfl (by omega)) rfl ?_) | (refine Exec.stab rfl (Stab.int rfl rfl rfl) rfl ?_))) | ((with_reducible refine Knd.store ?_); (refine Exec.storeW rfl rfl (tysOk.get rfl) (by repeat (first | exact Upd.here | apply Upd.there)) rfl rfl (by repeat (first | exact AllOne.nil | refine AllOne.cons (by first | rfl | assumption) ?_)) ?_)) | ((with_reducible refine Knd.alloc ?_); (refine Exec.alloc (tysOk.get rfl) rfl rfl (fun b => ?_))) | ((with_reducible refine Knd.indexAddr ?_); (refine Exec.stab rfl (Stab.indexAddr rfl rfl (tysOk.get rfl) rfl (tysOk.get rfl) rfl (by omega) (by omega) (by first | rfl | assumption)) rfl ?_)))) | (with_reducible first | apply Tr.next | apply Tr.seq | apply Tr.region | apply Tr.nil | apply Tr.skip | apply Tr.block | apply Tr.exit | apply Tr.then_exit) | ((with_reducible refine Tr.in_exit ?_ ?_); (exact rfl)) | (refine Tr.cond_t rfl (by first | (with_reducible assumption) | omega) ?_)))
    refine Tr.give (r := box b _ _) (by repeat (first | exact Del.here | apply Del.there)) ?_
    exact Tr.again (j + 1, A1, c1) ⟨by simp only; omega, hc1⟩ (by simp only; omega) (holds_sub (by repeat (first | exact SubFr.nil | refine SubFr.cons rfl ?_)) (by repeat (first | exact DropL.refl | apply DropL.skip)))
  rw [if_pos hday] at hnx
  (repeat (first | ((with_reducible refine Tr.step rfl ?_); (first | ((with_reducible refine Knd.move ?_); (refine Exec.stab rfl (Stab.move rfl) rfl ?_)) | ((with_reducible refine Knd.assign ?_); (refine Exec.stab rfl (Stab.assign rfl) rfl ?_)) | ((with_reducible refine Knd.load ?_); (first | (refine Exec.stab rfl (Stab.load rfl (tysOk.get rfl) rfl (by repeat (first | exact Has.here | apply Has.there)) rfl) rfl ?_) | (refine Exec.stab rfl (Stab.loadMA rfl (tysOk.get rfl) rfl (by assumption) (by first | rfl | assumption)) rfl ?_))) | ((with_reducible refine Knd.fieldAddr ?_); (refine Exec.stab rfl (Stab.fieldZ rfl (tysOk.get rfl) rfl rfl (tysOk.get rfl) rfl) rfl ?_)) | ((with_reducible refine Knd.len ?_); (refine Exec.stab rfl (Stab.len rfl (tysOk.get rfl) rfl) rfl ?_)) | ((with_reducible refine Knd.binOp ?_); (refine Exec.stab rfl (Stab.int rfl rfl rfl) rfl ?_)) | ((with_reducible refine Knd.store ?_); (refine Exec.storeW rfl rfl (tysOk.get rfl) (by repeat (first | exact Upd.here | apply Upd.there)) rfl rfl (by repeat (first | exact AllOne.nil | refine AllOne.cons (by first | rfl | assumption) ?_)) ?_)) | ((with_reducible refine Knd.alloc ?_); (refine Exec.alloc (tysOk.get rfl) rfl rfl (fun b => ?_))) | ((with_reducible refine Knd.indexAddr ?_); (refine Exec.stab rfl (Stab.indexAddr rfl rfl (tysOk.get rfl) rfl (tysOk.get rfl) rfl (by omega) (by omega) (by first | rfl | assumption)) rfl ?_)))) | (with_reducible first | apply Tr.next | apply Tr.seq | apply Tr.region | apply Tr.nil | apply Tr.skip | apply Tr.block) | (refine Tr.cond_t rfl (by first | (with_reducible assumption) | omega) ?_) | (refine Tr.cond_f rfl (by omega) ?_)))
  refine Tr.give (r := box b _ _) (by repeat (first | exact Del.here | apply Del.there)) ?_
  generalize shOut am Y.reqs day Y.sups.length j = sj at hnx hol
  have ein : sj = sj ++ shIn am j day 0 := (List.append_nil _).symm
  rw [ein]
  refine Tr.loop (α := Nat × Option Addr × Nat) (fun y => ⟨84, [(60, .int .i64 (y.1 : Int)), (59, .int .i64 (Y.sups.length : Int)), (58, .slice B1 Y.sups.length k1), (13, .int .i64 (j : Int)), (49, .int .i64 (j : Int)), (48, .int .i64 (Y.reqs.length : Int)), (47, .slice Ar Y.reqs.length cr), (6, .slice y.2.1 (sj ++ shIn am j day y.1).length y.2.2), (10, .slice B1 Y.sups.length k1), (2, .int .i64 day)], [], M3,
      ownS 44 5 y.2.1 (sj ++ shIn am j day y.1).length y.2.2 ((sj ++ shIn am j day y.1).flatMap hpC) :: F⟩)
    (fun y => y.1 ≤ Y.sups.length ∧ y.2.2 ≤ 9223372036854775807) (fun y => Y.sups.length - y.1) (0, A1, c1) ⟨Nat.zero_le _, hc1⟩ (holds_sub (by repeat (first | exact SubFr.nil | refine SubFr.cons rfl ?_)) (by repeat (first | exact DropL.refl | apply DropL.skip))) (fun y hy => ?_)
  clear hc1
  obtain ⟨i, A2, c2⟩ := y
  obtain ⟨hi, hc2⟩ := hy
  dsimp only at hi hc2
  dsimp only
  have hil := shIn_len am j day i
  by_cases hlt2 : i < Y.sups.length
  rotate_left
  · have ei : Y.sups.length = i := by omega
    subst ei
    rw [← hnx]
    (repeat (first | ((with_reducible refine Tr.step rfl ?_); (first | ((with_reducible refine Knd.move ?_); (refine Exec.stab rfl (Stab.move rfl) rfl ?_)) | ((with_reducible refine Knd.binOp ?_); (first | (refine Exec.stab rfl (Stab.addi rfl rfl (by omega)) rfl ?_) | (refine Exec.stab rfl (Stab.int rfl rfl rfl) rfl ?_))))) | (with_reducible first | apply Tr.next | apply Tr.seq | apply Tr.region | apply Tr.nil | apply Tr.exit | apply Tr.then_exit | apply Tr.in_normal) | ((with_reducible refine Tr.in_exit ?_ ?_); (exact rfl)) | (refine Tr.cond_f rfl (by first | (with_reducible assumption) | omega) ?_)))
    exact Tr.again (j + 1, A2, c2) ⟨by simp only; omega, hc2⟩ (by simp only; omega) (holds_sub (by repeat (first | exact SubFr.nil | refine SubFr.cons rfl ?_)) (by repeat (first | exact DropL.refl | apply DropL.skip)))
  obtain ⟨row, hrow⟩ := get_of_lt (xs := am) (i := i) (by omega)
  obtain ⟨hA3, ch3, hat3, Aw, kw, rfl, hrI⟩ := hI.elem hrow
  have hrl := hrowl i row hrow
  obtain ⟨x, hx⟩ := get_of_lt (xs := row) (i := j) (by omega)
  obtain ⟨hA4, hat4⟩ := Ints.at hrI hx
  have hin := shIn_succ am j day i
  have hamv : amv am i j = x := by rw [amv, getD_of (d := []) hrow, getD_of (d := (0 : Int)) hx]
  rw [hamv] at hin
  by_cases hx0 : 0 < x
  · rw [if_pos hx0] at hin
    (repeat (first | ((with_reducible refine Tr.step rfl ?_); (first | ((with_reducible refine Knd.move ?_); (refine Exec.stab rfl (Stab.move rfl) rfl ?_)) | ((with_reducible refine Knd.assign ?_); (refine Exec.stab rfl (Stab.assign rfl) rfl ?_)) | ((with_reducible refine Knd.load ?_); (refine Exec.stab rfl (Stab.loadM rfl (tysOk.get rfl) rfl (by assumption)) rfl ?_)) | ((with_reducible refine Knd.binOp ?_); (refine Exec.stab rfl (Stab.int rfl rfl rfl) rfl ?_)) | ((with_reducible refine Knd.indexAddr ?_); (refine Exec.stab rfl (Stab.indexAddr rfl rfl (tysOk.get rfl) rfl (tysOk.get rfl) rfl (by omega) (by omega) (by first | rfl | assumption)) rfl ?_)) | ((with_reducible refine Knd.build ?_); (refine Exec.stab rfl (Stab.build tysOk rfl rfl rfl rfl (by repeat (first | exact BuildP.nil | ((apply BuildP.one); (rfl); (rfl); (first | rfl | assumption); (repeat (first | exact SetL.z | apply SetL.s)))))) rfl ?_)) | ((with_reducible refine Knd.buildSlice ?_); (refine Exec.buildSlice (tysOk.get rfl) rfl (tysOk.get rfl) rfl rfl rfl rfl rfl (by repeat (first | exact BuildP.nil | ((apply BuildP.many); (rfl); (rfl); (rfl); (rfl); (repeat (first | exact PutL.nil | ((apply PutL.cons); (repeat (first | exact SetL.z | apply SetL.s)))))))) rfl (fun b => ?_))))) | (with_reducible first | apply Tr.next | apply Tr.seq | apply Tr.region | apply Tr.nil | apply Tr.skip | apply Tr.block) | (refine Tr.cond_t rfl (by first | (with_reducible assumption) | omega) ?_)))
    ((refine Tr.step rfl ?_))
    refine Exec.append (news := hpC ⟨3, (i : Int), (j : Int), day, x⟩) rfl rfl (tysOk.get rfl) rfl (tysOk.get rfl) rfl rfl rfl rfl (by repeat (first | exact Del.here | apply Del.there)) (Src.box (by repeat (first | exact Has.here | apply Has.there))) rfl (by intro u hu; simp only [hpC, List.mem_cons, List.not_mem_nil, or_false] at hu; rcases hu with rfl | rfl | rfl | rfl | rfl <;> rfl) (by rw [List.length_append]; omega) (by rw [List.length_append]; omega) rfl (fun A7 c7 hc7 => ?_)
    refine Tr.give (r := box b _ _) (by repeat (first | exact Del.here | apply Del.there)) ?_
    rw [show (sj ++ shIn am j day i).flatMap hpC ++ hpC ⟨3, (i : Int), (j : Int), day, x⟩ = (sj ++ shIn am j day (i + 1)).flatMap hpC by rw [hin, ← List.append_assoc, List.flatMap_append (ys := [_])]; simp, show (sj ++ shIn am j day i).length + 1 = (sj ++ shIn am j day (i + 1)).length by rw [hin, List.length_append, List.length_append, List.length_append]; rfl]
    (repeat (first | ((with_reducible refine Tr.step rfl ?_); (first | ((with_reducible refine Knd.move ?_); (refine Exec.stab rfl (Stab.move rfl) rfl ?_)) | ((with_reducible refine Knd.assign ?_); (refine Exec.stab rfl (Stab.assign rfl) rfl ?_)) | ((with_reducible refine Knd.binOp ?_); (refine Exec.stab rfl (Stab.addi rfl rfl (by omega)) rfl ?_)))) | (with_reducible first | apply Tr.next | apply Tr.region | apply Tr.nil | apply Tr.in_normal)))
    exact Tr.again (i + 1, A7, c7) ⟨by simp only; omega, hc7⟩ (by simp only; omega) (holds_sub (by repeat (first | exact SubFr.nil | refine SubFr.cons rfl ?_)) (by repeat (first | exact DropL.refl | apply DropL.skip)))
  · rw [if_neg hx0, List.append_nil] at hin
    rw [← hin]
    (repeat (first | ((with_reducible refine Tr.step rfl ?_); (first | ((with_reducible refine Knd.move ?_); (refine Exec.stab rfl (Stab.move rfl) rfl ?_)) | ((with_reducible refine Knd.assign ?_); (refine Exec.stab rfl (Stab.assign rfl) rfl ?_)) | ((with_reducible refine Knd.load ?_); (refine Exec.stab rfl (Stab.loadM rfl (tysOk.get rfl) rfl (by assumption)) rfl ?_)) | ((with_reducible refine Knd.binOp ?_); (first | (refine Exec.stab rfl (Stab.addi rfl rfl (by omega)) rfl ?_) | (refine Exec.stab rfl (Stab.int rfl rfl rfl) rfl ?_))) | ((with_reducible refine Knd.indexAddr ?_); (refine Exec.stab rfl (Stab.indexAddr rfl rfl (tysOk.get rfl) rfl (tysOk.get rfl) rfl (by omega) (by omega) (by first | rfl | assumption)) rfl ?_)))) | (with_reducible first | apply Tr.next | apply Tr.seq | apply Tr.region | apply Tr.nil | apply Tr.skip | apply Tr.block | apply Tr.in_normal) | (refine Tr.cond_t rfl (by first | (with_reducible assumption) | omega) ?_) | (refine Tr.cond_f rfl (by (with_reducible assumption)) ?_)))
    exact Tr.again (i + 1, A2, c2) ⟨by simp only; omega, hc2⟩ (by simp only; omega) (holds_sub (by repeat (first | exact SubFr.nil | refine SubFr.cons rfl ?_)) (by repeat (first | exact DropL.refl | apply DropL.skip)))
end Go.Proofs.Ytgnipfjjkliibaa

/-
  Honour: lists compared, requests sought, amounts.
  Conditions: none.
-/
namespace Go.Proofs.Ytgnipfjjkliibaa
open Go Bf
attribute [local irreducible] Tr Exec Stab HasTy Go.Addr.add IntKind.wrap
theorem eq_upto {α : Type} {p q : List α} (hl : p.length = q.length) (h : ∀ t, t < p.length → p[t]? = q[t]?) : p = q := by
  apply List.ext_getElem?
  intro t
  by_cases ht : t < p.length
  · exact h t ht
  · rw [List.getElem?_eq_none (by omega), List.getElem?_eq_none (by omega)]
theorem upto_next {α : Type} {p q : List α} {i : Nat} (h : ∀ t, t < i → p[t]? = q[t]?) (e : p[i]? = q[i]?) : ∀ t, t < i + 1 → p[t]? = q[t]? := fun t ht => by
  by_cases e2 : t = i
  · rw [e2]; exact e
  · exact h t (by omega)
set_option maxHeartbeats 4000000 in
theorem sameInts_fn (M : Mem) (A B : Option Addr) (c d : Nat) (p q : List Int) (hp : Ints M (.slice A p.length c) p) (hq : Ints M (.slice B q.length d) q) :
    Fn0 Try.prog 38 [.slice A p.length c, .slice B q.length d] M (fun r M' => (∃ b : Bool, r = .bool b ∧ (b = true ↔ p = q)) ∧ M = M') := by
  have hpl := hp.len_le
  have hql := hq.len_le
  refine Fn.intro Try.func38 rfl rfl Try.ntmps38 rfl fun E F => ?_
  by_cases hl : p.length = q.length
  rotate_left
  · (repeat (first | ((with_reducible refine Tr.step rfl ?_); (first | ((with_reducible refine Knd.move ?_); (refine Exec.stab rfl (Stab.move rfl) rfl ?_)) | ((with_reducible refine Knd.assign ?_); (refine Exec.stab rfl (Stab.assign rfl) rfl ?_)) | ((with_reducible refine Knd.len ?_); (refine Exec.stab rfl (Stab.len rfl (tysOk.get rfl) rfl) rfl ?_)) | ((with_reducible refine Knd.binOp ?_); (refine Exec.stab rfl (Stab.int rfl rfl rfl) rfl ?_)))) | (with_reducible first | apply Tr.next | apply Tr.seq | apply Tr.region | apply Tr.nil | apply Tr.ret | apply Tr.then_ret) | (refine Tr.cond_t rfl (by first | (with_reducible assumption) | omega) ?_)))
    (refine Tr.done (by first | exact .inl rfl | exact .inr rfl) rfl (by repeat (first | exact RVs.nil | (apply RVs.cons; (exact RV.tmp rfl)))) (by first | exact Mem.le.refl _ | assumption) (by exact ⟨[], rfl⟩) ⟨rfl, ?_⟩)
    exact ⟨⟨false, rfl, by simp only [Bool.false_eq_true, false_iff]; exact fun h => hl (congrArg _ h)⟩, rfl⟩
  (repeat (first | ((with_reducible refine Tr.step rfl ?_); (first | ((with_reducible refine Knd.move ?_); (refine Exec.stab rfl (Stab.move rfl) rfl ?_)) | ((with_reducible refine Knd.assign ?_); (refine Exec.stab rfl (Stab.assign rfl) rfl ?_)) | ((with_reducible refine Knd.len ?_); (refine Exec.stab rfl (Stab.len rfl (tysOk.get rfl) rfl) rfl ?_)) | ((with_reducible refine Knd.binOp ?_); (refine Exec.stab rfl (Stab.int rfl rfl rfl) rfl ?_)))) | (with_reducible first | apply Tr.next | apply Tr.seq | apply Tr.region | apply Tr.nil | apply Tr.skip | apply Tr.block) | (refine Tr.cond_f rfl (by omega) ?_)))
  refine Tr.loop (α := Nat) (fun y => ⟨26, [(5, .int .i64 (y : Int)), (0, .slice A p.length c), (1, .slice B q.length d)], [], M, [] ++ F⟩)
    (fun y => y ≤ p.length ∧ ∀ t, t < y → p[t]? = q[t]?) (fun y => p.length - y) 0 ⟨Nat.zero_le _, fun t ht => by omega⟩ (holds_sub (by repeat (first | exact SubFr.nil | refine SubFr.cons rfl ?_)) (by repeat (first | exact DropL.refl | apply DropL.skip))) (fun i hi => ?_)
  obtain ⟨hi, hall⟩ := hi
  by_cases hlt : i < p.length
  · obtain ⟨x, hx⟩ := get_of_lt hlt
    obtain ⟨y, hy⟩ := get_of_lt (xs := q) (i := i) (by omega)
    obtain ⟨hA, hatx⟩ := Ints.at hp hx
    obtain ⟨hB, haty⟩ := Ints.at hq hy
    (repeat (first | ((with_reducible refine Tr.step rfl ?_); (first | ((with_reducible refine Knd.move ?_); (refine Exec.stab rfl (Stab.move rfl) rfl ?_)) | ((with_reducible refine Knd.len ?_); (refine Exec.stab rfl (Stab.len rfl (tysOk.get rfl) rfl) rfl ?_)) | ((with_reducible refine Knd.binOp ?_); (refine Exec.stab rfl (Stab.int rfl rfl rfl) rfl ?_)))) | (with_reducible first | apply Tr.next | apply Tr.seq | apply Tr.region | apply Tr.nil | apply Tr.skip | apply Tr.block) | (refine Tr.cond_t rfl (by first | (with_reducible assumption) | omega) ?_)))
    (((apply Tr.draw); (kernel_rfl)); (refine TrA.take 0 (by kernel_rfl) rfl (by kernel_rfl) (by exact fun _ _ _ h => h) (by exact fun _ h => h) rfl (by first | exact Stab.move rfl) rfl rfl ?_); (refine TrA.take 1 (by kernel_rfl) rfl (by kernel_rfl) (by exact fun _ _ _ h => h) (by exact fun _ h => h) rfl (by first | exact Stab.move rfl) rfl rfl ?_); (refine TrA.take 4 (by kernel_rfl) rfl (by kernel_rfl) (by exact fun _ _ _ h => h) (by exact fun _ h => h) rfl (by first | exact Stab.move rfl) rfl rfl ?_); (refine TrA.take 5 (by kernel_rfl) rfl (by kernel_rfl) (by exact fun _ _ _ h => h) (by exact fun _ h => h) rfl (by first | exact Stab.move rfl) rfl rfl ?_); (refine TrA.take 2 (by kernel_rfl) rfl (by kernel_rfl) (by exact fun _ _ _ h => h) (by exact fun _ h => h) rfl (by exact Stab.indexAddr rfl rfl (tysOk.get rfl) rfl (tysOk.get rfl) rfl (by omega) (by omega) (by first | rfl | assumption)) rfl rfl ?_); (refine TrA.take 6 (by kernel_rfl) rfl (by kernel_rfl) (by exact fun _ _ _ h => h) (by exact fun _ h => h) rfl (by exact Stab.indexAddr rfl rfl (tysOk.get rfl) rfl (tysOk.get rfl) rfl (by omega) (by omega) (by first | rfl | assumption)) rfl rfl ?_); (refine TrA.take 3 (by kernel_rfl) rfl (by kernel_rfl) (by exact fun _ _ _ h => h) (by exact fun _ h => h) rfl (by exact Stab.loadM rfl (tysOk.get rfl) rfl (by assumption)) rfl rfl ?_); (refine TrA.take 7 (by kernel_rfl) rfl (by kernel_rfl) (by exact fun _ _ _ h => h) (by exact fun _ h => h) rfl (by exact Stab.loadM rfl (tysOk.get rfl) rfl (by assumption)) rfl rfl ?_); (refine TrA.take 8 (by kernel_rfl) rfl (by kernel_rfl) (by exact fun _ _ _ h => h) (by exact fun _ h => h) rfl (by exact Stab.int rfl rfl rfl) rfl rfl ?_); (refine TrA.done (by kernel_rfl) ?_))
    by_cases e : x = y
    · (repeat (first | ((with_reducible refine Tr.step rfl ?_); (first | ((with_reducible refine Knd.move ?_); (refine Exec.stab rfl (Stab.move rfl) rfl ?_)) | ((with_reducible refine Knd.assign ?_); (refine Exec.stab rfl (Stab.assign rfl) rfl ?_)) | ((with_reducible refine Knd.binOp ?_); (refine Exec.stab rfl (Stab.addi rfl rfl (by omega)) rfl ?_)))) | (with_reducible first | apply Tr.next | apply Tr.region | apply Tr.nil | apply Tr.skip | apply Tr.in_normal) | (refine Tr.cond_f rfl (by omega) ?_)))
      refine Tr.again (i + 1) ⟨by omega, upto_next hall (by rw [hx, hy, e])⟩ (by omega) (holds_sub (by repeat (first | exact SubFr.nil | refine SubFr.cons rfl ?_)) (by repeat (first | exact DropL.refl | apply DropL.skip)))
    · (repeat (first | ((with_reducible refine Tr.step rfl ?_); (with_reducible refine Knd.assign ?_); (refine Exec.stab rfl (Stab.assign rfl) rfl ?_)) | (with_reducible first | apply Tr.next | apply Tr.seq | apply Tr.region | apply Tr.nil | apply Tr.ret | apply Tr.then_ret | apply Tr.in_ret) | (refine Tr.cond_t rfl (by (with_reducible assumption)) ?_)))
      (refine Tr.done (by first | exact .inl rfl | exact .inr rfl) rfl (by repeat (first | exact RVs.nil | (apply RVs.cons; (exact RV.tmp rfl)))) (by first | exact Mem.le.refl _ | assumption) (by exact ⟨[], rfl⟩) ⟨rfl, ?_⟩)
      refine ⟨⟨false, rfl, by simp only [Bool.false_eq_true, false_iff]; exact fun h => e (by rw [h, hy] at hx; exact (Option.some.inj hx).symm)⟩, rfl⟩
  have ei : p.length = i := by omega
  subst ei
  (repeat (first | ((with_reducible refine Tr.step rfl ?_); (first | ((with_reducible refine Knd.move ?_); (refine Exec.stab rfl (Stab.move rfl) rfl ?_)) | ((with_reducible refine Knd.assign ?_); (refine Exec.stab rfl (Stab.assign rfl) rfl ?_)) | ((with_reducible refine Knd.len ?_); (refine Exec.stab rfl (Stab.len rfl (tysOk.get rfl) rfl) rfl ?_)) | ((with_reducible refine Knd.binOp ?_); (refine Exec.stab rfl (Stab.int rfl rfl rfl) rfl ?_)))) | (with_reducible first | apply Tr.next | apply Tr.seq | apply Tr.region | apply Tr.nil | apply Tr.exit | apply Tr.ret | apply Tr.then_exit) | ((with_reducible refine Tr.in_exit ?_ ?_); (exact rfl)) | (refine Tr.cond_f rfl (by first | (with_reducible assumption) | omega) ?_)))
  (refine Tr.done (by first | exact .inl rfl | exact .inr rfl) rfl (by repeat (first | exact RVs.nil | (apply RVs.cons; (exact RV.tmp rfl)))) (by first | exact Mem.le.refl _ | assumption) (by exact ⟨[], rfl⟩) ⟨rfl, ?_⟩)
  exact ⟨⟨true, rfl, by simp only [true_iff]; exact eq_upto hl hall⟩, rfl⟩
theorem nats__inj {p q : List Nat} : nats_ p = nats_ q ↔ p = q := by
  constructor
  · intro h
    exact List.map_inj_right (f := fun n : Nat => (n : Int)) (fun a b hab => by have h' : (a : Int) = b := hab; omega) |>.1 h
  · rintro rfl; rfl
set_option maxHeartbeats 8000000 in
theorem sameBroken_fn (M : Mem) (A B : Option Addr) (c d : Nat) (p q : List (Nat × List Nat)) (hp : SlOf 2 RBr M (.slice A p.length c) p) (hq : SlOf 2 RBr M (.slice B q.length d) q) :
    Fn0 Try.prog 18 [.slice A p.length c, .slice B q.length d] M (fun r M' => (∃ b : Bool, r = .bool b ∧ (b = true ↔ p = q)) ∧ M = M') := by
  have hpl := hp.len_le
  have hql := hq.len_le
  refine Fn.intro Try.func18 rfl rfl Try.ntmps18 rfl fun E F => ?_
  by_cases hl : p.length = q.length
  rotate_left
  · (repeat (first | ((with_reducible refine Tr.step rfl ?_); (first | ((with_reducible refine Knd.move ?_); (refine Exec.stab rfl (Stab.move rfl) rfl ?_)) | ((with_reducible refine Knd.assign ?_); (refine Exec.stab rfl (Stab.assign rfl) rfl ?_)) | ((with_reducible refine Knd.len ?_); (refine Exec.stab rfl (Stab.len rfl (tysOk.get rfl) rfl) rfl ?_)) | ((with_reducible refine Knd.binOp ?_); (refine Exec.stab rfl (Stab.int rfl rfl rfl) rfl ?_)))) | (with_reducible first | apply Tr.next | apply Tr.seq | apply Tr.region | apply Tr.nil | apply Tr.ret | apply Tr.then_ret) | (refine Tr.cond_t rfl (by first | (with_reducible assumption) | omega) ?_)))
    (refine Tr.done (by first | exact .inl rfl | exact .inr rfl) rfl (by repeat (first | exact RVs.nil | (apply RVs.cons; (exact RV.tmp rfl)))) (by first | exact Mem.le.refl _ | assumption) (by exact ⟨[], rfl⟩) ⟨rfl, ?_⟩)
    exact ⟨⟨false, rfl, by simp only [Bool.false_eq_true, false_iff]; exact fun h => hl (congrArg _ h)⟩, rfl⟩
  (repeat (first | ((with_reducible refine Tr.step rfl ?_); (first | ((with_reducible refine Knd.move ?_); (refine Exec.stab rfl (Stab.move rfl) rfl ?_)) | ((with_reducible refine Knd.assign ?_); (refine Exec.stab rfl (Stab.assign rfl) rfl ?_)) | ((with_reducible refine Knd.len ?_); (refine Exec.stab rfl (Stab.len rfl (tysOk.get rfl) rfl) rfl ?_)) | ((with_reducible refine Knd.binOp ?_); (refine Exec.stab rfl (Stab.int rfl rfl rfl) rfl ?_)))) | (with_reducible first | apply Tr.next | apply Tr.seq | apply Tr.region | apply Tr.nil | apply Tr.skip | apply Tr.block) | (refine Tr.cond_f rfl (by omega) ?_)))
  refine Tr.loop (α := Nat) (fun y => ⟨42, [(5, .int .i64 (y : Int)), (0, .slice A p.length c), (1, .slice B q.length d)], [], M, [] ++ F⟩)
    (fun y => y ≤ p.length ∧ ∀ t, t < y → p[t]? = q[t]?) (fun y => p.length - y) 0 ⟨Nat.zero_le _, fun t ht => by omega⟩ (holds_sub (by repeat (first | exact SubFr.nil | refine SubFr.cons rfl ?_)) (by repeat (first | exact DropL.refl | apply DropL.skip))) (fun i hi => ?_)
  obtain ⟨hi, hall⟩ := hi
  by_cases hlt : i < p.length
  · obtain ⟨x, hx⟩ := get_of_lt hlt
    obtain ⟨y, hy⟩ := get_of_lt (xs := q) (i := i) (by omega)
    obtain ⟨hA, chx, hatx, Ax, nx, rfl, hIx⟩ := hp.elem hx
    obtain ⟨hB, chy, haty, Ay, ny, rfl, hIy⟩ := hq.elem hy
    have hx0 : At M (((A.getD default).add (i * 2)).add 0) [.int .i64 (x.1 : Int), .slice Ax x.2.length nx] := hatx.drop 0
    have hy0 : At M (((B.getD default).add (i * 2)).add 0) [.int .i64 (y.1 : Int), .slice Ay y.2.length ny] := haty.drop 0
    have hx1 : At M (((A.getD default).add (i * 2)).add 1) [.slice Ax x.2.length nx] := hatx.drop 1
    have hy1 : At M (((B.getD default).add (i * 2)).add 1) [.slice Ay y.2.length ny] := haty.drop 1
    have hsi := sameInts_fn M Ax Ay nx ny (nats_ x.2) (nats_ y.2) (by rw [nats__length]; exact hIx) (by rw [nats__length]; exact hIy)
    rw [nats__length, nats__length] at hsi
    have hne : x ≠ y → ¬ p = q := fun hn h => hn (by rw [h, hy] at hx; exact (Option.some.inj hx).symm)
    (repeat (first | ((with_reducible refine Tr.step rfl ?_); (first | ((with_reducible refine Knd.move ?_); (refine Exec.stab rfl (Stab.move rfl) rfl ?_)) | ((with_reducible refine Knd.len ?_); (refine Exec.stab rfl (Stab.len rfl (tysOk.get rfl) rfl) rfl ?_)) | ((with_reducible refine Knd.binOp ?_); (refine Exec.stab rfl (Stab.int rfl rfl rfl) rfl ?_)))) | (with_reducible first | apply Tr.next | apply Tr.seq | apply Tr.region | apply Tr.nil | apply Tr.skip | apply Tr.block) | (refine Tr.cond_t rfl (by first | (with_reducible assumption) | omega) ?_)))
    (((apply Tr.draw); (kernel_rfl)); (refine TrA.take 0 (by kernel_rfl) rfl (by kernel_rfl) (by exact fun _ _ _ h => h) (by exact fun _ h => h) rfl (by first | exact Stab.move rfl) rfl rfl ?_); (refine TrA.take 1 (by kernel_rfl) rfl (by kernel_rfl) (by exact fun _ _ _ h => h) (by exact fun _ h => h) rfl (by first | exact Stab.move rfl) rfl rfl ?_); (refine TrA.take 5 (by kernel_rfl) rfl (by kernel_rfl) (by exact fun _ _ _ h => h) (by exact fun _ h => h) rfl (by first | exact Stab.move rfl) rfl rfl ?_); (refine TrA.take 6 (by kernel_rfl) rfl (by kernel_rfl) (by exact fun _ _ _ h => h) (by exact fun _ h => h) rfl (by first | exact Stab.move rfl) rfl rfl ?_); (refine TrA.take 2 (by kernel_rfl) rfl (by kernel_rfl) (by exact fun _ _ _ h => h) (by exact fun _ h => h) rfl (by exact Stab.indexAddr rfl rfl (tysOk.get rfl) rfl (tysOk.get rfl) rfl (by omega) (by omega) (by first | rfl | assumption)) rfl rfl ?_); (refine TrA.take 7 (by kernel_rfl) rfl (by kernel_rfl) (by exact fun _ _ _ h => h) (by exact fun _ h => h) rfl (by exact Stab.indexAddr rfl rfl (tysOk.get rfl) rfl (tysOk.get rfl) rfl (by omega) (by omega) (by first | rfl | assumption)) rfl rfl ?_); (refine TrA.take 3 (by kernel_rfl) rfl (by kernel_rfl) (by exact fun _ _ _ h => h) (by exact fun _ h => h) rfl (by exact Stab.fieldD rfl (tysOk.get rfl) rfl rfl (tysOk.get rfl) rfl) rfl rfl ?_); (refine TrA.take 8 (by kernel_rfl) rfl (by kernel_rfl) (by exact fun _ _ _ h => h) (by exact fun _ h => h) rfl (by exact Stab.fieldD rfl (tysOk.get rfl) rfl rfl (tysOk.get rfl) rfl) rfl rfl ?_); (refine TrA.take 4 (by kernel_rfl) rfl (by kernel_rfl) (by exact fun _ _ _ h => h) (by exact fun _ h => h) rfl (by exact Stab.loadM rfl (tysOk.get rfl) rfl (by assumption)) rfl rfl ?_); (refine TrA.take 9 (by kernel_rfl) rfl (by kernel_rfl) (by exact fun _ _ _ h => h) (by exact fun _ h => h) rfl (by exact Stab.loadM rfl (tysOk.get rfl) rfl (by assumption)) rfl rfl ?_); (refine TrA.take 10 (by kernel_rfl) rfl (by kernel_rfl) (by exact fun _ _ _ h => h) (by exact fun _ h => h) rfl (by exact Stab.int rfl rfl rfl) rfl rfl ?_); (refine TrA.take 11 (by kernel_rfl) rfl (by kernel_rfl) (by exact fun _ _ _ h => h) (by exact fun _ h => h) rfl (by first | exact Stab.move rfl) rfl rfl ?_))
    by_cases e1 : x.1 = y.1
    · have e1' : decide ((x.1 : Int) ≠ (y.1 : Int)) = false := decide_eq_false (fun h => h (by rw [e1]))
      rw [e1']
      (((refine TrA.takeg 12 (by kernel_rfl) rfl (by kernel_rfl) (by exact fun _ _ _ h => h) (by exact fun _ h => h) rfl rfl rfl (by (with_reducible rfl)) (by first | exact Stab.move rfl) rfl rfl ?_)); ((refine TrA.takeg 13 (by kernel_rfl) rfl (by kernel_rfl) (by exact fun _ _ _ h => h) (by exact fun _ h => h) rfl rfl rfl (by (with_reducible rfl)) (by first | exact Stab.move rfl) rfl rfl ?_)); ((refine TrA.takeg 17 (by kernel_rfl) rfl (by kernel_rfl) (by exact fun _ _ _ h => h) (by exact fun _ h => h) rfl rfl rfl (by (with_reducible rfl)) (by first | exact Stab.move rfl) rfl rfl ?_)); ((refine TrA.takeg 18 (by kernel_rfl) rfl (by kernel_rfl) (by exact fun _ _ _ h => h) (by exact fun _ h => h) rfl rfl rfl (by (with_reducible rfl)) (by first | exact Stab.move rfl) rfl rfl ?_)); ((refine TrA.takeg 14 (by kernel_rfl) rfl (by kernel_rfl) (by exact fun _ _ _ h => h) (by exact fun _ h => h) rfl rfl rfl (by (with_reducible rfl)) (by exact Stab.indexAddr rfl rfl (tysOk.get rfl) rfl (tysOk.get rfl) rfl (by omega) (by omega) (by first | rfl | assumption)) rfl rfl ?_)); ((refine TrA.takeg 19 (by kernel_rfl) rfl (by kernel_rfl) (by exact fun _ _ _ h => h) (by exact fun _ h => h) rfl rfl rfl (by (with_reducible rfl)) (by exact Stab.indexAddr rfl rfl (tysOk.get rfl) rfl (tysOk.get rfl) rfl (by omega) (by omega) (by first | rfl | assumption)) rfl rfl ?_)); ((refine TrA.takeg 15 (by kernel_rfl) rfl (by kernel_rfl) (by exact fun _ _ _ h => h) (by exact fun _ h => h) rfl rfl rfl (by (with_reducible rfl)) (by exact Stab.fieldD rfl (tysOk.get rfl) rfl rfl (tysOk.get rfl) rfl) rfl rfl ?_)); ((refine TrA.takeg 20 (by kernel_rfl) rfl (by kernel_rfl) (by exact fun _ _ _ h => h) (by exact fun _ h => h) rfl rfl rfl (by (with_reducible rfl)) (by exact Stab.fieldD rfl (tysOk.get rfl) rfl rfl (tysOk.get rfl) rfl) rfl rfl ?_)); ((refine TrA.takeg 16 (by kernel_rfl) rfl (by kernel_rfl) (by exact fun _ _ _ h => h) (by exact fun _ h => h) rfl rfl rfl (by (with_reducible rfl)) (by exact Stab.loadM rfl (tysOk.get rfl) rfl (by assumption)) rfl rfl ?_)); ((refine TrA.takeg 21 (by kernel_rfl) rfl (by kernel_rfl) (by exact fun _ _ _ h => h) (by exact fun _ h => h) rfl rfl rfl (by (with_reducible rfl)) (by exact Stab.loadM rfl (tysOk.get rfl) rfl (by assumption)) rfl rfl ?_)); (refine TrA.eff 22 rfl (by kernel_rfl) (by exact .inr ⟨_, _, _, rfl, rfl, rfl⟩) ?_))
      refine Exec.call0 rfl hsi rfl ?_
      rintro _ _ _ ⟨⟨bb, rfl, hbb⟩, rfl⟩
      refine ⟨Mem.le.refl _, (by exact fun _ h => h), ?_⟩
      rw [nats__inj] at hbb
      cases bb
      · (((refine TrA.takeg 23 (by kernel_rfl) rfl (by kernel_rfl) (by exact fun _ _ _ h => h) (by exact fun _ h => h) rfl rfl rfl (by (with_reducible rfl)) (by exact Stab.not rfl) rfl rfl ?_)); (refine TrA.take 24 (by kernel_rfl) rfl (by kernel_rfl) (by exact fun _ _ _ h => h) (by exact fun _ h => h) rfl (by exact Stab.pick_f rfl (by (with_reducible rfl)) rfl) rfl rfl ?_); (refine TrA.done (by kernel_rfl) ?_))
        (repeat (first | ((with_reducible refine Tr.step rfl ?_); (with_reducible refine Knd.assign ?_); (refine Exec.stab rfl (Stab.assign rfl) rfl ?_)) | (with_reducible first | apply Tr.next | apply Tr.seq | apply Tr.region | apply Tr.nil | apply Tr.ret | apply Tr.then_ret | apply Tr.in_ret) | (refine Tr.cond_bt rfl (by first | (with_reducible rfl) | (with_reducible exact Bool.not_false)) ?_)))
        (refine Tr.done (by first | exact .inl rfl | exact .inr rfl) rfl (by repeat (first | exact RVs.nil | (apply RVs.cons; (exact RV.tmp rfl)))) (by first | exact Mem.le.refl _ | assumption) (by exact ⟨[], rfl⟩) ⟨rfl, ?_⟩)
        exact ⟨⟨false, rfl, by simp only [Bool.false_eq_true, false_iff]; exact hne (fun h => by have := hbb.2 (by rw [h]); cases this)⟩, rfl⟩
      · (((refine TrA.takeg 23 (by kernel_rfl) rfl (by kernel_rfl) (by exact fun _ _ _ h => h) (by exact fun _ h => h) rfl rfl rfl (by (with_reducible rfl)) (by exact Stab.not rfl) rfl rfl ?_)); (refine TrA.take 24 (by kernel_rfl) rfl (by kernel_rfl) (by exact fun _ _ _ h => h) (by exact fun _ h => h) rfl (by exact Stab.pick_f rfl (by (with_reducible rfl)) rfl) rfl rfl ?_); (refine TrA.done (by kernel_rfl) ?_))
        (repeat (first | ((with_reducible refine Tr.step rfl ?_); (first | ((with_reducible refine Knd.move ?_); (refine Exec.stab rfl (Stab.move rfl) rfl ?_)) | ((with_reducible refine Knd.assign ?_); (refine Exec.stab rfl (Stab.assign rfl) rfl ?_)) | ((with_reducible refine Knd.binOp ?_); (refine Exec.stab rfl (Stab.addi rfl rfl (by omega)) rfl ?_)))) | (with_reducible first | apply Tr.next | apply Tr.region | apply Tr.nil | apply Tr.skip | apply Tr.in_normal) | (refine Tr.cond_bf rfl (by first | (with_reducible rfl) | (with_reducible exact Bool.not_true)) ?_)))
        have exy : x = y := Prod.ext e1 (hbb.1 rfl)
        exact Tr.again (i + 1) ⟨by omega, upto_next hall (by rw [hx, hy, exy])⟩ (by omega) (holds_sub (by repeat (first | exact SubFr.nil | refine SubFr.cons rfl ?_)) (by repeat (first | exact DropL.refl | apply DropL.skip)))
    · have e1' : decide ((x.1 : Int) ≠ (y.1 : Int)) = true := decide_eq_true (fun h => e1 (by omega))
      rw [e1']
      (((refine TrA.takeu 12 (by kernel_rfl) rfl (by kernel_rfl) (by exact fun _ _ _ h => h) (by exact fun _ h => h) rfl rfl rfl (by first | rfl | (simp; done) | (simp; omega)) rfl rfl ?_)); ((refine TrA.takeu 13 (by kernel_rfl) rfl (by kernel_rfl) (by exact fun _ _ _ h => h) (by exact fun _ h => h) rfl rfl rfl (by first | rfl | (simp; done) | (simp; omega)) rfl rfl ?_)); ((refine TrA.takeu 17 (by kernel_rfl) rfl (by kernel_rfl) (by exact fun _ _ _ h => h) (by exact fun _ h => h) rfl rfl rfl (by first | rfl | (simp; done) | (simp; omega)) rfl rfl ?_)); ((refine TrA.takeu 18 (by kernel_rfl) rfl (by kernel_rfl) (by exact fun _ _ _ h => h) (by exact fun _ h => h) rfl rfl rfl (by first | rfl | (simp; done) | (simp; omega)) rfl rfl ?_)); ((refine TrA.takeu 14 (by kernel_rfl) rfl (by kernel_rfl) (by exact fun _ _ _ h => h) (by exact fun _ h => h) rfl rfl rfl (by first | rfl | (simp; done) | (simp; omega)) rfl rfl ?_)); ((refine TrA.takeu 19 (by kernel_rfl) rfl (by kernel_rfl) (by exact fun _ _ _ h => h) (by exact fun _ h => h) rfl rfl rfl (by first | rfl | (simp; done) | (simp; omega)) rfl rfl ?_)); ((refine TrA.takeu 15 (by kernel_rfl) rfl (by kernel_rfl) (by exact fun _ _ _ h => h) (by exact fun _ h => h) rfl rfl rfl (by first | rfl | (simp; done) | (simp; omega)) rfl rfl ?_)); ((refine TrA.takeu 20 (by kernel_rfl) rfl (by kernel_rfl) (by exact fun _ _ _ h => h) (by exact fun _ h => h) rfl rfl rfl (by first | rfl | (simp; done) | (simp; omega)) rfl rfl ?_)); ((refine TrA.takeu 16 (by kernel_rfl) rfl (by kernel_rfl) (by exact fun _ _ _ h => h) (by exact fun _ h => h) rfl rfl rfl (by first | rfl | (simp; done) | (simp; omega)) rfl rfl ?_)); ((refine TrA.takeu 21 (by kernel_rfl) rfl (by kernel_rfl) (by exact fun _ _ _ h => h) (by exact fun _ h => h) rfl rfl rfl (by first | rfl | (simp; done) | (simp; omega)) rfl rfl ?_)); ((refine TrA.takeu 22 (by kernel_rfl) rfl (by kernel_rfl) (by exact fun _ _ _ h => h) (by exact fun _ h => h) rfl rfl rfl (by first | rfl | (simp; done) | (simp; omega)) rfl rfl ?_)); ((refine TrA.takeu 23 (by kernel_rfl) rfl (by kernel_rfl) (by exact fun _ _ _ h => h) (by exact fun _ h => h) rfl rfl rfl (by first | rfl | (simp; done) | (simp; omega)) rfl rfl ?_)); (refine TrA.take 24 (by kernel_rfl) rfl (by kernel_rfl) (by exact fun _ _ _ h => h) (by exact fun _ h => h) rfl (by exact Stab.pick_t rfl (by (with_reducible rfl)) rfl) rfl rfl ?_); (refine TrA.done (by kernel_rfl) ?_))
      (repeat (first | ((with_reducible refine Tr.step rfl ?_); (with_reducible refine Knd.assign ?_); (refine Exec.stab rfl (Stab.assign rfl) rfl ?_)) | (with_reducible first | apply Tr.next | apply Tr.seq | apply Tr.region | apply Tr.nil | apply Tr.ret | apply Tr.then_ret | apply Tr.in_ret) | (refine Tr.cond_bt rfl (by (with_reducible rfl)) ?_)))
      (refine Tr.done (by first | exact .inl rfl | exact .inr rfl) rfl (by repeat (first | exact RVs.nil | (apply RVs.cons; (exact RV.tmp rfl)))) (by first | exact Mem.le.refl _ | assumption) (by exact ⟨[], rfl⟩) ⟨rfl, ?_⟩)
      exact ⟨⟨false, rfl, by simp only [Bool.false_eq_true, false_iff]; exact hne (fun h => e1 (by rw [h]))⟩, rfl⟩
  have ei : p.length = i := by omega
  subst ei
  (repeat (first | ((with_reducible refine Tr.step rfl ?_); (first | ((with_reducible refine Knd.move ?_); (refine Exec.stab rfl (Stab.move rfl) rfl ?_)) | ((with_reducible refine Knd.assign ?_); (refine Exec.stab rfl (Stab.assign rfl) rfl ?_)) | ((with_reducible refine Knd.len ?_); (refine Exec.stab rfl (Stab.len rfl (tysOk.get rfl) rfl) rfl ?_)) | ((with_reducible refine Knd.binOp ?_); (refine Exec.stab rfl (Stab.int rfl rfl rfl) rfl ?_)))) | (with_reducible first | apply Tr.next | apply Tr.seq | apply Tr.region | apply Tr.nil | apply Tr.exit | apply Tr.ret | apply Tr.then_exit) | ((with_reducible refine Tr.in_exit ?_ ?_); (exact rfl)) | (refine Tr.cond_f rfl (by first | (with_reducible assumption) | omega) ?_)))
  (refine Tr.done (by first | exact .inl rfl | exact .inr rfl) rfl (by repeat (first | exact RVs.nil | (apply RVs.cons; (exact RV.tmp rfl)))) (by first | exact Mem.le.refl _ | assumption) (by exact ⟨[], rfl⟩) ⟨rfl, ?_⟩)
  exact ⟨⟨true, rfl, by simp only [true_iff]; exact eq_upto hl hall⟩, rfl⟩
def hpI (h : Hp) : List Int := [h.kind, h.sup, h.req, h.day, h.amt]
theorem hpI_inj {x y : Hp} : hpI x = hpI y ↔ x = y := by
  constructor
  · intro h
    obtain ⟨a1, a2, a3, a4, a5⟩ := x
    obtain ⟨b1, b2, b3, b4, b5⟩ := y
    simp only [hpI, List.cons.injEq, and_true] at h
    obtain ⟨rfl, rfl, rfl, rfl, rfl⟩ := h
    rfl
  · rintro rfl; rfl
set_option maxHeartbeats 8000000 in
theorem sameHap_fn (M : Mem) (A B : Option Addr) (c d : Nat) (p q : List Hp) (hp : SlOf 5 RHp M (.slice A p.length c) p) (hq : SlOf 5 RHp M (.slice B q.length d) q) :
    Fn0 Try.prog 19 [.slice A p.length c, .slice B q.length d] M (fun r M' => (∃ b : Bool, r = .bool b ∧ (b = true ↔ p = q)) ∧ M = M') := by
  have hpl := hp.len_le
  have hql := hq.len_le
  refine Fn.intro Try.func19 rfl rfl Try.ntmps19 rfl fun E F => ?_
  by_cases hl : p.length = q.length
  rotate_left
  · (repeat (first | ((with_reducible refine Tr.step rfl ?_); (first | ((with_reducible refine Knd.move ?_); (refine Exec.stab rfl (Stab.move rfl) rfl ?_)) | ((with_reducible refine Knd.assign ?_); (refine Exec.stab rfl (Stab.assign rfl) rfl ?_)) | ((with_reducible refine Knd.len ?_); (refine Exec.stab rfl (Stab.len rfl (tysOk.get rfl) rfl) rfl ?_)) | ((with_reducible refine Knd.binOp ?_); (refine Exec.stab rfl (Stab.int rfl rfl rfl) rfl ?_)))) | (with_reducible first | apply Tr.next | apply Tr.seq | apply Tr.region | apply Tr.nil | apply Tr.ret | apply Tr.then_ret) | (refine Tr.cond_t rfl (by first | (with_reducible assumption) | omega) ?_)))
    (refine Tr.done (by first | exact .inl rfl | exact .inr rfl) rfl (by repeat (first | exact RVs.nil | (apply RVs.cons; (exact RV.tmp rfl)))) (by first | exact Mem.le.refl _ | assumption) (by exact ⟨[], rfl⟩) ⟨rfl, ?_⟩)
    exact ⟨⟨false, rfl, by simp only [Bool.false_eq_true, false_iff]; exact fun h => hl (congrArg _ h)⟩, rfl⟩
  (repeat (first | ((with_reducible refine Tr.step rfl ?_); (first | ((with_reducible refine Knd.move ?_); (refine Exec.stab rfl (Stab.move rfl) rfl ?_)) | ((with_reducible refine Knd.assign ?_); (refine Exec.stab rfl (Stab.assign rfl) rfl ?_)) | ((with_reducible refine Knd.len ?_); (refine Exec.stab rfl (Stab.len rfl (tysOk.get rfl) rfl) rfl ?_)) | ((with_reducible refine Knd.binOp ?_); (refine Exec.stab rfl (Stab.int rfl rfl rfl) rfl ?_)))) | (with_reducible first | apply Tr.next | apply Tr.seq | apply Tr.region | apply Tr.nil | apply Tr.skip | apply Tr.block) | (refine Tr.cond_f rfl (by omega) ?_)))
  refine Tr.loop (α := Nat) (fun y => ⟨26, [(5, .int .i64 (y : Int)), (0, .slice A p.length c), (1, .slice B q.length d)], [], M, [] ++ F⟩)
    (fun y => y ≤ p.length ∧ ∀ t, t < y → p[t]? = q[t]?) (fun y => p.length - y) 0 ⟨Nat.zero_le _, fun t ht => by omega⟩ (holds_sub (by repeat (first | exact SubFr.nil | refine SubFr.cons rfl ?_)) (by repeat (first | exact DropL.refl | apply DropL.skip))) (fun i hi => ?_)
  obtain ⟨hi, hall⟩ := hi
  by_cases hlt : i < p.length
  · obtain ⟨x, hx⟩ := get_of_lt hlt
    obtain ⟨y, hy⟩ := get_of_lt (xs := q) (i := i) (by omega)
    obtain ⟨hA, chx, hatx, rfl⟩ := hp.elem hx
    obtain ⟨hB, chy, haty, rfl⟩ := hq.elem hy
    have hne : x ≠ y → ¬ p = q := fun hn h => hn (by rw [h, hy] at hx; exact (Option.some.inj hx).symm)
    (repeat (first | ((with_reducible refine Tr.step rfl ?_); (first | ((with_reducible refine Knd.move ?_); (refine Exec.stab rfl (Stab.move rfl) rfl ?_)) | ((with_reducible refine Knd.len ?_); (refine Exec.stab rfl (Stab.len rfl (tysOk.get rfl) rfl) rfl ?_)) | ((with_reducible refine Knd.binOp ?_); (refine Exec.stab rfl (Stab.int rfl rfl rfl) rfl ?_)))) | (with_reducible first | apply Tr.next | apply Tr.seq | apply Tr.region | apply Tr.nil | apply Tr.skip | apply Tr.block) | (refine Tr.cond_t rfl (by first | (with_reducible assumption) | omega) ?_)))
    (((apply Tr.draw); (kernel_rfl)); (refine TrA.take 0 (by kernel_rfl) rfl (by kernel_rfl) (by exact fun _ _ _ h => h) (by exact fun _ h => h) rfl (by first | exact Stab.move rfl) rfl rfl ?_); (refine TrA.take 1 (by kernel_rfl) rfl (by kernel_rfl) (by exact fun _ _ _ h => h) (by exact fun _ h => h) rfl (by first | exact Stab.move rfl) rfl rfl ?_); (refine TrA.take 4 (by kernel_rfl) rfl (by kernel_rfl) (by exact fun _ _ _ h => h) (by exact fun _ h => h) rfl (by first | exact Stab.move rfl) rfl rfl ?_); (refine TrA.take 5 (by kernel_rfl) rfl (by kernel_rfl) (by exact fun _ _ _ h => h) (by exact fun _ h => h) rfl (by first | exact Stab.move rfl) rfl rfl ?_); (refine TrA.take 2 (by kernel_rfl) rfl (by kernel_rfl) (by exact fun _ _ _ h => h) (by exact fun _ h => h) rfl (by exact Stab.indexAddr rfl rfl (tysOk.get rfl) rfl (tysOk.get rfl) rfl (by omega) (by omega) (by first | rfl | assumption)) rfl rfl ?_); (refine TrA.take 6 (by kernel_rfl) rfl (by kernel_rfl) (by exact fun _ _ _ h => h) (by exact fun _ h => h) rfl (by exact Stab.indexAddr rfl rfl (tysOk.get rfl) rfl (tysOk.get rfl) rfl (by omega) (by omega) (by first | rfl | assumption)) rfl rfl ?_); (refine TrA.take 3 (by kernel_rfl) rfl (by kernel_rfl) (by exact fun _ _ _ h => h) (by exact fun _ h => h) rfl (by exact Stab.loadMA rfl (tysOk.get rfl) rfl (by assumption) (by first | rfl | assumption)) rfl rfl ?_); (refine TrA.take 7 (by kernel_rfl) rfl (by kernel_rfl) (by exact fun _ _ _ h => h) (by exact fun _ h => h) rfl (by exact Stab.loadMA rfl (tysOk.get rfl) rfl (by assumption) (by first | rfl | assumption)) rfl rfl ?_); ((refine TrA.take 8 (by kernel_rfl) rfl (by kernel_rfl) (by exact fun _ _ _ h => h) (by exact fun _ h => h) rfl (Stab.stne (hpI x) (hpI y) rfl rfl (tysOk.get rfl) rfl (tysOk.get (t := 3) rfl) rfl rfl (by kernel_rfl) (by kernel_rfl) rfl rfl) rfl rfl ?_)); (refine TrA.done (by kernel_rfl) ?_))
    by_cases e : x = y
    · have e2 : ¬ (hpI x ≠ hpI y) := fun h => h (hpI_inj.2 e)
      (repeat (first | ((with_reducible refine Tr.step rfl ?_); (first | ((with_reducible refine Knd.move ?_); (refine Exec.stab rfl (Stab.move rfl) rfl ?_)) | ((with_reducible refine Knd.assign ?_); (refine Exec.stab rfl (Stab.assign rfl) rfl ?_)) | ((with_reducible refine Knd.binOp ?_); (refine Exec.stab rfl (Stab.addi rfl rfl (by omega)) rfl ?_)))) | (with_reducible first | apply Tr.next | apply Tr.region | apply Tr.nil | apply Tr.skip | apply Tr.in_normal) | (refine Tr.cond_f rfl (by (with_reducible assumption)) ?_)))
      exact Tr.again (i + 1) ⟨by omega, upto_next hall (by rw [hx, hy, e])⟩ (by omega) (holds_sub (by repeat (first | exact SubFr.nil | refine SubFr.cons rfl ?_)) (by repeat (first | exact DropL.refl | apply DropL.skip)))
    · have e2 : hpI x ≠ hpI y := fun h => e (hpI_inj.1 h)
      (repeat (first | ((with_reducible refine Tr.step rfl ?_); (with_reducible refine Knd.assign ?_); (refine Exec.stab rfl (Stab.assign rfl) rfl ?_)) | (with_reducible first | apply Tr.next | apply Tr.seq | apply Tr.region | apply Tr.nil | apply Tr.ret | apply Tr.then_ret | apply Tr.in_ret) | (refine Tr.cond_t rfl (by (with_reducible assumption)) ?_)))
      (refine Tr.done (by first | exact .inl rfl | exact .inr rfl) rfl (by repeat (first | exact RVs.nil | (apply RVs.cons; (exact RV.tmp rfl)))) (by first | exact Mem.le.refl _ | assumption) (by exact ⟨[], rfl⟩) ⟨rfl, ?_⟩)
      exact ⟨⟨false, rfl, by simp only [Bool.false_eq_true, false_iff]; exact hne e⟩, rfl⟩
  have ei : p.length = i := by omega
  subst ei
  (repeat (first | ((with_reducible refine Tr.step rfl ?_); (first | ((with_reducible refine Knd.move ?_); (refine Exec.stab rfl (Stab.move rfl) rfl ?_)) | ((with_reducible refine Knd.assign ?_); (refine Exec.stab rfl (Stab.assign rfl) rfl ?_)) | ((with_reducible refine Knd.len ?_); (refine Exec.stab rfl (Stab.len rfl (tysOk.get rfl) rfl) rfl ?_)) | ((with_reducible refine Knd.binOp ?_); (refine Exec.stab rfl (Stab.int rfl rfl rfl) rfl ?_)))) | (with_reducible first | apply Tr.next | apply Tr.seq | apply Tr.region | apply Tr.nil | apply Tr.exit | apply Tr.ret | apply Tr.then_exit) | ((with_reducible refine Tr.in_exit ?_ ?_); (exact rfl)) | (refine Tr.cond_f rfl (by first | (with_reducible assumption) | omega) ?_)))
  (refine Tr.done (by first | exact .inl rfl | exact .inr rfl) rfl (by repeat (first | exact RVs.nil | (apply RVs.cons; (exact RV.tmp rfl)))) (by first | exact Mem.le.refl _ | assumption) (by exact ⟨[], rfl⟩) ⟨rfl, ?_⟩)
  exact ⟨⟨true, rfl, by simp only [true_iff]; exact eq_upto hl hall⟩, rfl⟩
end Go.Proofs.Ytgnipfjjkliibaa

/-
  Honour: books compared.
  Conditions: none.
-/
namespace Go.Proofs.Ytgnipfjjkliibaa
open Go Bf
attribute [local irreducible] Tr Exec Stab HasTy Go.Addr.add IntKind.wrap
def spI (y : Sp) : List Int := [y.no, y.item, y.plant, y.ready, y.expiry, y.amount]
def rqI (y : Rq) : List Int := [y.no, y.item, y.cust, y.due, y.shelf, y.amount]
theorem spI_inj {x y : Sp} : spI x = spI y ↔ x = y := by
  constructor
  · intro h
    obtain ⟨a1, a2, a3, a4, a5, a6⟩ := x
    obtain ⟨b1, b2, b3, b4, b5, b6⟩ := y
    simp only [spI, List.cons.injEq, and_true] at h
    obtain ⟨rfl, rfl, rfl, rfl, rfl, rfl⟩ := h
    rfl
  · rintro rfl; rfl
theorem rqI_inj {x y : Rq} : rqI x = rqI y ↔ x = y := by
  constructor
  · intro h
    obtain ⟨a1, a2, a3, a4, a5, a6⟩ := x
    obtain ⟨b1, b2, b3, b4, b5, b6⟩ := y
    simp only [rqI, List.cons.injEq, and_true] at h
    obtain ⟨rfl, rfl, rfl, rfl, rfl, rfl⟩ := h
    rfl
  · rintro rfl; rfl
set_option maxHeartbeats 16000000 in
theorem sameBook_fn (M : Mem) (v w : Value) (p q : Bk) (hp : RBk M v p) (hq : RBk M w q) :
    Fn0 Try.prog 17 [v, w] M (fun r M' => (∃ b : Bool, r = .bool b ∧ (b = true ↔ p = q)) ∧ M = M') := by
  obtain ⟨As, cs, Ar, cr, Af, cf, Ad, cd, rfl, h1, h2, h3⟩ := hp
  obtain ⟨Bs, ds, Br, dr, Bf, df, Bd, dd, rfl, q1, q2, q3⟩ := hq
  have l1 := h1.len_le
  have l2 := h2.len_le
  have l3 := h3.len_le
  have l4 := q1.len_le
  have l5 := q2.len_le
  have l6 := q3.len_le
  refine Fn.intro Try.func17 rfl rfl Try.ntmps17 rfl fun E F => ?_
  by_cases c1 : p.known = q.known
  rotate_left
  · (repeat (first | ((with_reducible refine Tr.step rfl ?_); (first | ((with_reducible refine Knd.move ?_); (refine Exec.stab rfl (Stab.move rfl) rfl ?_)) | ((with_reducible refine Knd.assign ?_); (refine Exec.stab rfl (Stab.assign rfl) rfl ?_)) | ((with_reducible refine Knd.load ?_); (refine Exec.stab rfl (Stab.load rfl (tysOk.get rfl) rfl (by repeat (first | exact Has.here | apply Has.there)) rfl) rfl ?_)) | ((with_reducible refine Knd.fieldAddr ?_); (refine Exec.stab rfl (Stab.fieldZ rfl (tysOk.get rfl) rfl rfl (tysOk.get rfl) rfl) rfl ?_)) | ((with_reducible refine Knd.binOp ?_); (refine Exec.stab rfl (Stab.int rfl rfl rfl) rfl ?_)) | ((with_reducible refine Knd.pick ?_); (first | (refine Exec.stab rfl (Stab.pick_t rfl (by (with_reducible rfl)) rfl) rfl ?_) | (refine Exec.stab rfl (Stab.pick_td rfl (by (with_reducible assumption)) rfl) rfl ?_))) | ((with_reducible refine Knd.box ?_); (refine Exec.box rfl rfl (fun b => ?_))))) | (with_reducible first | apply Tr.next | apply Tr.seq | apply Tr.region | apply Tr.nil) | (refine Tr.guard_s0 rfl rfl rfl (by (with_reducible rfl)) rfl rfl ?_) | (refine Tr.guard_n' rfl rfl rfl (by (with_reducible assumption)) rfl rfl ?_) | (with_reducible first | apply Tr.ret | apply Tr.then_ret) | (refine Tr.cond_bt rfl (by (with_reducible rfl)) ?_)))
    (refine Tr.done (by first | exact .inl rfl | exact .inr rfl) rfl (by repeat (first | exact RVs.nil | (apply RVs.cons; (exact RV.tmp rfl)))) (by first | exact Mem.le.refl _ | assumption) (by exact ⟨[_, _], rfl⟩) ⟨rfl, ?_⟩)
    exact ⟨⟨false, rfl, by simp only [Bool.false_eq_true, false_iff]; exact fun h => c1 (by rw [h])⟩, rfl⟩
  by_cases c2 : p.sups.length = q.sups.length
  rotate_left
  · (repeat (first | ((with_reducible refine Tr.step rfl ?_); (first | ((with_reducible refine Knd.move ?_); (refine Exec.stab rfl (Stab.move rfl) rfl ?_)) | ((with_reducible refine Knd.assign ?_); (refine Exec.stab rfl (Stab.assign rfl) rfl ?_)) | ((with_reducible refine Knd.load ?_); (refine Exec.stab rfl (Stab.load rfl (tysOk.get rfl) rfl (by repeat (first | exact Has.here | apply Has.there)) rfl) rfl ?_)) | ((with_reducible refine Knd.fieldAddr ?_); (refine Exec.stab rfl (Stab.fieldZ rfl (tysOk.get rfl) rfl rfl (tysOk.get rfl) rfl) rfl ?_)) | ((with_reducible refine Knd.binOp ?_); (refine Exec.stab rfl (Stab.int rfl rfl rfl) rfl ?_)) | ((with_reducible refine Knd.pick ?_); (first | (refine Exec.stab rfl (Stab.pick_t rfl (by (with_reducible rfl)) rfl) rfl ?_) | (refine Exec.stab rfl (Stab.pick_td rfl (by omega) rfl) rfl ?_) | (refine Exec.stab rfl (Stab.pick_fd rfl (by omega) rfl) rfl ?_))) | ((with_reducible refine Knd.box ?_); (refine Exec.box rfl rfl (fun b => ?_))))) | (with_reducible first | apply Tr.next | apply Tr.seq | apply Tr.region | apply Tr.nil) | (refine Tr.guard_s0 rfl rfl rfl (by (with_reducible rfl)) rfl rfl ?_) | ((refine Tr.guard_y' rfl rfl rfl (by first | (with_reducible assumption) | omega) ?_); (first | ((with_reducible refine Knd.load ?_); (refine Exec.stab rfl (Stab.load rfl (tysOk.get rfl) rfl (by repeat (first | exact Has.here | apply Has.there)) rfl) rfl ?_)) | ((with_reducible refine Knd.fieldAddr ?_); (refine Exec.stab rfl (Stab.fieldZ rfl (tysOk.get rfl) rfl rfl (tysOk.get rfl) rfl) rfl ?_)) | ((with_reducible refine Knd.len ?_); (refine Exec.stab rfl (Stab.len rfl (tysOk.get rfl) rfl) rfl ?_)) | ((with_reducible refine Knd.binOp ?_); (refine Exec.stab rfl (Stab.int rfl rfl rfl) rfl ?_)))) | (refine Tr.guard_n' rfl rfl rfl (by first | (with_reducible assumption) | omega) rfl rfl ?_) | (with_reducible first | apply Tr.ret | apply Tr.then_ret) | (refine Tr.cond_bt rfl (by (with_reducible rfl)) ?_)))
    (refine Tr.done (by first | exact .inl rfl | exact .inr rfl) rfl (by repeat (first | exact RVs.nil | (apply RVs.cons; (exact RV.tmp rfl)))) (by first | exact Mem.le.refl _ | assumption) (by exact ⟨[_, _], rfl⟩) ⟨rfl, ?_⟩)
    exact ⟨⟨false, rfl, by simp only [Bool.false_eq_true, false_iff]; exact fun h => c2 (by rw [h])⟩, rfl⟩
  by_cases c3 : p.reqs.length = q.reqs.length
  rotate_left
  · (repeat (first | ((with_reducible refine Tr.step rfl ?_); (first | ((with_reducible refine Knd.move ?_); (refine Exec.stab rfl (Stab.move rfl) rfl ?_)) | ((with_reducible refine Knd.assign ?_); (refine Exec.stab rfl (Stab.assign rfl) rfl ?_)) | ((with_reducible refine Knd.load ?_); (refine Exec.stab rfl (Stab.load rfl (tysOk.get rfl) rfl (by repeat (first | exact Has.here | apply Has.there)) rfl) rfl ?_)) | ((with_reducible refine Knd.fieldAddr ?_); (refine Exec.stab rfl (Stab.fieldZ rfl (tysOk.get rfl) rfl rfl (tysOk.get rfl) rfl) rfl ?_)) | ((with_reducible refine Knd.binOp ?_); (refine Exec.stab rfl (Stab.int rfl rfl rfl) rfl ?_)) | ((with_reducible refine Knd.pick ?_); (first | (refine Exec.stab rfl (Stab.pick_t rfl (by (with_reducible rfl)) rfl) rfl ?_) | (refine Exec.stab rfl (Stab.pick_td rfl (by omega) rfl) rfl ?_) | (refine Exec.stab rfl (Stab.pick_fd rfl (by omega) rfl) rfl ?_))) | ((with_reducible refine Knd.box ?_); (refine Exec.box rfl rfl (fun b => ?_))))) | (with_reducible first | apply Tr.next | apply Tr.seq | apply Tr.region | apply Tr.nil) | (refine Tr.guard_s0 rfl rfl rfl (by (with_reducible rfl)) rfl rfl ?_) | ((refine Tr.guard_y' rfl rfl rfl (by first | (with_reducible assumption) | omega) ?_); (first | ((with_reducible refine Knd.load ?_); (refine Exec.stab rfl (Stab.load rfl (tysOk.get rfl) rfl (by repeat (first | exact Has.here | apply Has.there)) rfl) rfl ?_)) | ((with_reducible refine Knd.fieldAddr ?_); (refine Exec.stab rfl (Stab.fieldZ rfl (tysOk.get rfl) rfl rfl (tysOk.get rfl) rfl) rfl ?_)) | ((with_reducible refine Knd.len ?_); (refine Exec.stab rfl (Stab.len rfl (tysOk.get rfl) rfl) rfl ?_)) | ((with_reducible refine Knd.binOp ?_); (refine Exec.stab rfl (Stab.int rfl rfl rfl) rfl ?_)))) | (refine Tr.guard_n' rfl rfl rfl (by first | (with_reducible assumption) | omega) rfl rfl ?_) | (with_reducible first | apply Tr.ret | apply Tr.then_ret) | (refine Tr.cond_bt rfl (by (with_reducible rfl)) ?_)))
    (refine Tr.done (by first | exact .inl rfl | exact .inr rfl) rfl (by repeat (first | exact RVs.nil | (apply RVs.cons; (exact RV.tmp rfl)))) (by first | exact Mem.le.refl _ | assumption) (by exact ⟨[_, _], rfl⟩) ⟨rfl, ?_⟩)
    exact ⟨⟨false, rfl, by simp only [Bool.false_eq_true, false_iff]; exact fun h => c3 (by rw [h])⟩, rfl⟩
  by_cases c4 : p.fits.length = q.fits.length
  rotate_left
  · (repeat (first | ((with_reducible refine Tr.step rfl ?_); (first | ((with_reducible refine Knd.move ?_); (refine Exec.stab rfl (Stab.move rfl) rfl ?_)) | ((with_reducible refine Knd.assign ?_); (refine Exec.stab rfl (Stab.assign rfl) rfl ?_)) | ((with_reducible refine Knd.load ?_); (refine Exec.stab rfl (Stab.load rfl (tysOk.get rfl) rfl (by repeat (first | exact Has.here | apply Has.there)) rfl) rfl ?_)) | ((with_reducible refine Knd.fieldAddr ?_); (refine Exec.stab rfl (Stab.fieldZ rfl (tysOk.get rfl) rfl rfl (tysOk.get rfl) rfl) rfl ?_)) | ((with_reducible refine Knd.binOp ?_); (refine Exec.stab rfl (Stab.int rfl rfl rfl) rfl ?_)) | ((with_reducible refine Knd.pick ?_); (first | (refine Exec.stab rfl (Stab.pick_td rfl (by omega) rfl) rfl ?_) | (refine Exec.stab rfl (Stab.pick_fd rfl (by omega) rfl) rfl ?_))) | ((with_reducible refine Knd.box ?_); (refine Exec.box rfl rfl (fun b => ?_))))) | (with_reducible first | apply Tr.next | apply Tr.seq | apply Tr.region | apply Tr.nil) | ((refine Tr.guard_y' rfl rfl rfl (by first | (with_reducible assumption) | omega) ?_); (first | ((with_reducible refine Knd.load ?_); (refine Exec.stab rfl (Stab.load rfl (tysOk.get rfl) rfl (by repeat (first | exact Has.here | apply Has.there)) rfl) rfl ?_)) | ((with_reducible refine Knd.fieldAddr ?_); (refine Exec.stab rfl (Stab.fieldZ rfl (tysOk.get rfl) rfl rfl (tysOk.get rfl) rfl) rfl ?_)) | ((with_reducible refine Knd.len ?_); (refine Exec.stab rfl (Stab.len rfl (tysOk.get rfl) rfl) rfl ?_)) | ((with_reducible refine Knd.binOp ?_); (refine Exec.stab rfl (Stab.int rfl rfl rfl) rfl ?_)))) | (refine Tr.guard_n' rfl rfl rfl (by first | (with_reducible assumption) | omega) rfl rfl ?_) | (with_reducible first | apply Tr.ret | apply Tr.then_ret) | (refine Tr.cond_bt rfl (by (with_reducible rfl)) ?_)))
    (refine Tr.done (by first | exact .inl rfl | exact .inr rfl) rfl (by repeat (first | exact RVs.nil | (apply RVs.cons; (exact RV.tmp rfl)))) (by first | exact Mem.le.refl _ | assumption) (by exact ⟨[_, _], rfl⟩) ⟨rfl, ?_⟩)
    exact ⟨⟨false, rfl, by simp only [Bool.false_eq_true, false_iff]; exact fun h => c4 (by rw [h])⟩, rfl⟩
  by_cases c5 : p.reads = q.reads
  rotate_left
  · (repeat (first | ((with_reducible refine Tr.step rfl ?_); (first | ((with_reducible refine Knd.move ?_); (refine Exec.stab rfl (Stab.move rfl) rfl ?_)) | ((with_reducible refine Knd.assign ?_); (refine Exec.stab rfl (Stab.assign rfl) rfl ?_)) | ((with_reducible refine Knd.load ?_); (refine Exec.stab rfl (Stab.load rfl (tysOk.get rfl) rfl (by repeat (first | exact Has.here | apply Has.there)) rfl) rfl ?_)) | ((with_reducible refine Knd.fieldAddr ?_); (refine Exec.stab rfl (Stab.fieldZ rfl (tysOk.get rfl) rfl rfl (tysOk.get rfl) rfl) rfl ?_)) | ((with_reducible refine Knd.binOp ?_); (refine Exec.stab rfl (Stab.int rfl rfl rfl) rfl ?_)) | ((with_reducible refine Knd.pick ?_); (refine Exec.stab rfl (Stab.pick_fd rfl (by omega) rfl) rfl ?_)) | ((with_reducible refine Knd.box ?_); (refine Exec.box rfl rfl (fun b => ?_))))) | (with_reducible first | apply Tr.next | apply Tr.seq | apply Tr.region | apply Tr.nil) | ((refine Tr.guard_y' rfl rfl rfl (by first | (with_reducible assumption) | omega) ?_); (first | ((with_reducible refine Knd.load ?_); (refine Exec.stab rfl (Stab.load rfl (tysOk.get rfl) rfl (by repeat (first | exact Has.here | apply Has.there)) rfl) rfl ?_)) | ((with_reducible refine Knd.fieldAddr ?_); (refine Exec.stab rfl (Stab.fieldZ rfl (tysOk.get rfl) rfl rfl (tysOk.get rfl) rfl) rfl ?_)) | ((with_reducible refine Knd.len ?_); (refine Exec.stab rfl (Stab.len rfl (tysOk.get rfl) rfl) rfl ?_)) | ((with_reducible refine Knd.binOp ?_); (refine Exec.stab rfl (Stab.int rfl rfl rfl) rfl ?_)))) | (with_reducible first | apply Tr.ret | apply Tr.then_ret) | (refine Tr.cond_t rfl (by first | (with_reducible assumption) | omega) ?_)))
    (refine Tr.done (by first | exact .inl rfl | exact .inr rfl) rfl (by repeat (first | exact RVs.nil | (apply RVs.cons; (exact RV.tmp rfl)))) (by first | exact Mem.le.refl _ | assumption) (by exact ⟨[_, _], rfl⟩) ⟨rfl, ?_⟩)
    exact ⟨⟨false, rfl, by simp only [Bool.false_eq_true, false_iff]; exact fun h => c5 (by rw [h])⟩, rfl⟩
  (repeat (first | ((with_reducible refine Tr.step rfl ?_); (first | ((with_reducible refine Knd.move ?_); (refine Exec.stab rfl (Stab.move rfl) rfl ?_)) | ((with_reducible refine Knd.assign ?_); (refine Exec.stab rfl (Stab.assign rfl) rfl ?_)) | ((with_reducible refine Knd.load ?_); (refine Exec.stab rfl (Stab.load rfl (tysOk.get rfl) rfl (by repeat (first | exact Has.here | apply Has.there)) rfl) rfl ?_)) | ((with_reducible refine Knd.fieldAddr ?_); (refine Exec.stab rfl (Stab.fieldZ rfl (tysOk.get rfl) rfl rfl (tysOk.get rfl) rfl) rfl ?_)) | ((with_reducible refine Knd.binOp ?_); (refine Exec.stab rfl (Stab.int rfl rfl rfl) rfl ?_)) | ((with_reducible refine Knd.pick ?_); (refine Exec.stab rfl (Stab.pick_fd rfl (by omega) rfl) rfl ?_)) | ((with_reducible refine Knd.box ?_); (refine Exec.box rfl rfl (fun b => ?_))))) | (with_reducible first | apply Tr.next | apply Tr.seq | apply Tr.region | apply Tr.nil) | ((refine Tr.guard_y' rfl rfl rfl (by omega) ?_); (first | ((with_reducible refine Knd.load ?_); (refine Exec.stab rfl (Stab.load rfl (tysOk.get rfl) rfl (by repeat (first | exact Has.here | apply Has.there)) rfl) rfl ?_)) | ((with_reducible refine Knd.fieldAddr ?_); (refine Exec.stab rfl (Stab.fieldZ rfl (tysOk.get rfl) rfl rfl (tysOk.get rfl) rfl) rfl ?_)) | ((with_reducible refine Knd.len ?_); (refine Exec.stab rfl (Stab.len rfl (tysOk.get rfl) rfl) rfl ?_)) | ((with_reducible refine Knd.binOp ?_); (refine Exec.stab rfl (Stab.int rfl rfl rfl) rfl ?_)))) | (with_reducible first | apply Tr.skip | apply Tr.block) | (refine Tr.cond_f rfl (by omega) ?_)))
  generalize b = b3
  rename_i b2
  refine Tr.loop (α := Nat) (fun y => ⟨133, [(5, .int .i64 (y : Int)), (3, .pointer (some ⟨b3, 0, none⟩)), (2, .pointer (some ⟨b2, 0, none⟩))], [], M, box b3 27 [.int .i64 q.known, .slice Bs q.sups.length ds, .slice Br q.reqs.length dr, .slice Bf q.fits.length df, .slice Bd q.reads dd] :: box b2 27 [.int .i64 p.known, .slice As p.sups.length cs, .slice Ar p.reqs.length cr, .slice Af p.fits.length cf, .slice Ad p.reads cd] :: ([] ++ F)⟩)
    (fun y => y ≤ p.sups.length ∧ ∀ t, t < y → p.sups[t]? = q.sups[t]?) (fun y => p.sups.length - y) 0 ⟨Nat.zero_le _, fun t ht => by omega⟩ (holds_sub (by repeat (first | exact SubFr.nil | refine SubFr.cons rfl ?_)) (by repeat (first | exact DropL.refl | apply DropL.skip))) (fun i hi => ?_)
  obtain ⟨hi, hall⟩ := hi
  by_cases hlt : i < p.sups.length
  · obtain ⟨x, hx⟩ := get_of_lt hlt
    obtain ⟨y, hy⟩ := get_of_lt (xs := q.sups) (i := i) (by omega)
    obtain ⟨hA, chx, hatx, rfl⟩ := h1.elem hx
    obtain ⟨hB, chy, haty, rfl⟩ := q1.elem hy
    have hne : x ≠ y → ¬ p = q := fun hn h => hn (by rw [h, hy] at hx; exact (Option.some.inj hx).symm)
    (repeat (first | ((with_reducible refine Tr.step rfl ?_); (first | ((with_reducible refine Knd.move ?_); (refine Exec.stab rfl (Stab.move rfl) rfl ?_)) | ((with_reducible refine Knd.load ?_); (refine Exec.stab rfl (Stab.load rfl (tysOk.get rfl) rfl (by repeat (first | exact Has.here | apply Has.there)) rfl) rfl ?_)) | ((with_reducible refine Knd.fieldAddr ?_); (refine Exec.stab rfl (Stab.fieldZ rfl (tysOk.get rfl) rfl rfl (tysOk.get rfl) rfl) rfl ?_)) | ((with_reducible refine Knd.len ?_); (refine Exec.stab rfl (Stab.len rfl (tysOk.get rfl) rfl) rfl ?_)) | ((with_reducible refine Knd.binOp ?_); (refine Exec.stab rfl (Stab.int rfl rfl rfl) rfl ?_)))) | (with_reducible first | apply Tr.next | apply Tr.seq | apply Tr.region | apply Tr.nil | apply Tr.skip | apply Tr.block) | (refine Tr.cond_t rfl (by first | (with_reducible assumption) | omega) ?_)))
    (((apply Tr.draw); (kernel_rfl)); (refine TrA.take 0 (by kernel_rfl) rfl (by kernel_rfl) (by exact fun _ _ _ h => h) (by exact fun _ h => h) rfl (by exact Stab.fieldZ rfl (tysOk.get rfl) rfl rfl (tysOk.get rfl) rfl) rfl rfl ?_); (refine TrA.take 2 (by kernel_rfl) rfl (by kernel_rfl) (by exact fun _ _ _ h => h) (by exact fun _ h => h) rfl (by first | exact Stab.move rfl) rfl rfl ?_); (refine TrA.take 5 (by kernel_rfl) rfl (by kernel_rfl) (by exact fun _ _ _ h => h) (by exact fun _ h => h) rfl (by exact Stab.fieldZ rfl (tysOk.get rfl) rfl rfl (tysOk.get rfl) rfl) rfl rfl ?_); (refine TrA.take 7 (by kernel_rfl) rfl (by kernel_rfl) (by exact fun _ _ _ h => h) (by exact fun _ h => h) rfl (by first | exact Stab.move rfl) rfl rfl ?_); (refine TrA.take 1 (by kernel_rfl) rfl (by kernel_rfl) (by exact fun _ _ _ h => h) (by exact fun _ h => h) rfl (by exact Stab.load rfl (tysOk.get rfl) rfl (by repeat (first | exact Has.here | apply Has.there)) rfl) rfl rfl ?_); (refine TrA.take 6 (by kernel_rfl) rfl (by kernel_rfl) (by exact fun _ _ _ h => h) (by exact fun _ h => h) rfl (by exact Stab.load rfl (tysOk.get rfl) rfl (by repeat (first | exact Has.here | apply Has.there)) rfl) rfl rfl ?_); (refine TrA.take 3 (by kernel_rfl) rfl (by kernel_rfl) (by exact fun _ _ _ h => h) (by exact fun _ h => h) rfl (by exact Stab.indexAddr rfl rfl (tysOk.get rfl) rfl (tysOk.get rfl) rfl (by omega) (by omega) (by first | rfl | assumption)) rfl rfl ?_); (refine TrA.take 8 (by kernel_rfl) rfl (by kernel_rfl) (by exact fun _ _ _ h => h) (by exact fun _ h => h) rfl (by exact Stab.indexAddr rfl rfl (tysOk.get rfl) rfl (tysOk.get rfl) rfl (by omega) (by omega) (by first | rfl | assumption)) rfl rfl ?_); (refine TrA.take 4 (by kernel_rfl) rfl (by kernel_rfl) (by exact fun _ _ _ h => h) (by exact fun _ h => h) rfl (by exact Stab.loadMA rfl (tysOk.get rfl) rfl (by assumption) (by first | rfl | assumption)) rfl rfl ?_); (refine TrA.take 9 (by kernel_rfl) rfl (by kernel_rfl) (by exact fun _ _ _ h => h) (by exact fun _ h => h) rfl (by exact Stab.loadMA rfl (tysOk.get rfl) rfl (by assumption) (by first | rfl | assumption)) rfl rfl ?_); ((refine TrA.take 10 (by kernel_rfl) rfl (by kernel_rfl) (by exact fun _ _ _ h => h) (by exact fun _ h => h) rfl (Stab.stne (spI x) (spI y) rfl rfl (tysOk.get rfl) rfl (tysOk.get (t := 3) rfl) rfl rfl (by kernel_rfl) (by kernel_rfl) rfl rfl) rfl rfl ?_)); (refine TrA.done (by kernel_rfl) ?_))
    by_cases e : x = y
    · have e2 : ¬ (spI x ≠ spI y) := fun h => h (spI_inj.2 e)
      (repeat (first | ((with_reducible refine Tr.step rfl ?_); (first | ((with_reducible refine Knd.move ?_); (refine Exec.stab rfl (Stab.move rfl) rfl ?_)) | ((with_reducible refine Knd.assign ?_); (refine Exec.stab rfl (Stab.assign rfl) rfl ?_)) | ((with_reducible refine Knd.binOp ?_); (refine Exec.stab rfl (Stab.addi rfl rfl (by omega)) rfl ?_)))) | (with_reducible first | apply Tr.next | apply Tr.region | apply Tr.nil | apply Tr.skip | apply Tr.in_normal) | (refine Tr.cond_f rfl (by (with_reducible assumption)) ?_)))
      exact Tr.again (i + 1) ⟨by omega, upto_next hall (by rw [hx, hy, e])⟩ (by omega) (holds_sub (by repeat (first | exact SubFr.nil | refine SubFr.cons rfl ?_)) (by repeat (first | exact DropL.refl | apply DropL.skip)))
    · have e2 : spI x ≠ spI y := fun h => e (spI_inj.1 h)
      (repeat (first | ((with_reducible refine Tr.step rfl ?_); (with_reducible refine Knd.assign ?_); (refine Exec.stab rfl (Stab.assign rfl) rfl ?_)) | (with_reducible first | apply Tr.next | apply Tr.seq | apply Tr.region | apply Tr.nil | apply Tr.ret | apply Tr.then_ret | apply Tr.in_ret) | (refine Tr.cond_t rfl (by (with_reducible assumption)) ?_)))
      (refine Tr.done (by first | exact .inl rfl | exact .inr rfl) rfl (by repeat (first | exact RVs.nil | (apply RVs.cons; (exact RV.tmp rfl)))) (by first | exact Mem.le.refl _ | assumption) (by exact ⟨[_, _], rfl⟩) ⟨rfl, ?_⟩)
      exact ⟨⟨false, rfl, by simp only [Bool.false_eq_true, false_iff]; exact hne e⟩, rfl⟩
  have ei : p.sups.length = i := by omega
  subst ei
  have es := eq_upto c2 hall
  clear hall hlt hi
  (repeat (first | ((with_reducible refine Tr.step rfl ?_); (first | ((with_reducible refine Knd.move ?_); (refine Exec.stab rfl (Stab.move rfl) rfl ?_)) | ((with_reducible refine Knd.assign ?_); (refine Exec.stab rfl (Stab.assign rfl) rfl ?_)) | ((with_reducible refine Knd.load ?_); (refine Exec.stab rfl (Stab.load rfl (tysOk.get rfl) rfl (by repeat (first | exact Has.here | apply Has.there)) rfl) rfl ?_)) | ((with_reducible refine Knd.fieldAddr ?_); (refine Exec.stab rfl (Stab.fieldZ rfl (tysOk.get rfl) rfl rfl (tysOk.get rfl) rfl) rfl ?_)) | ((with_reducible refine Knd.len ?_); (refine Exec.stab rfl (Stab.len rfl (tysOk.get rfl) rfl) rfl ?_)) | ((with_reducible refine Knd.binOp ?_); (refine Exec.stab rfl (Stab.int rfl rfl rfl) rfl ?_)))) | (with_reducible first | apply Tr.next | apply Tr.seq | apply Tr.region | apply Tr.nil | apply Tr.block | apply Tr.exit | apply Tr.then_exit) | ((with_reducible refine Tr.in_exit ?_ ?_); (exact rfl)) | (refine Tr.cond_f rfl (by omega) ?_)))
  refine Tr.loop (α := Nat) (fun y => ⟨133, [(6, .int .i64 (y : Int)), (3, .pointer (some ⟨b3, 0, none⟩)), (2, .pointer (some ⟨b2, 0, none⟩))], [], M, box b3 27 [.int .i64 q.known, .slice Bs q.sups.length ds, .slice Br q.reqs.length dr, .slice Bf q.fits.length df, .slice Bd q.reads dd] :: box b2 27 [.int .i64 p.known, .slice As p.sups.length cs, .slice Ar p.reqs.length cr, .slice Af p.fits.length cf, .slice Ad p.reads cd] :: ([] ++ F)⟩)
    (fun y => y ≤ p.reqs.length ∧ ∀ t, t < y → p.reqs[t]? = q.reqs[t]?) (fun y => p.reqs.length - y) 0 ⟨Nat.zero_le _, fun t ht => by omega⟩ (holds_sub (by repeat (first | exact SubFr.nil | refine SubFr.cons rfl ?_)) (by repeat (first | exact DropL.refl | apply DropL.skip))) (fun i hi => ?_)
  obtain ⟨hi, hall⟩ := hi
  by_cases hlt : i < p.reqs.length
  · obtain ⟨x, hx⟩ := get_of_lt hlt
    obtain ⟨y, hy⟩ := get_of_lt (xs := q.reqs) (i := i) (by omega)
    obtain ⟨hA, chx, hatx, rfl⟩ := h2.elem hx
    obtain ⟨hB, chy, haty, rfl⟩ := q2.elem hy
    have hne : x ≠ y → ¬ p = q := fun hn h => hn (by rw [h, hy] at hx; exact (Option.some.inj hx).symm)
    (repeat (first | ((with_reducible refine Tr.step rfl ?_); (first | ((with_reducible refine Knd.move ?_); (refine Exec.stab rfl (Stab.move rfl) rfl ?_)) | ((with_reducible refine Knd.load ?_); (refine Exec.stab rfl (Stab.load rfl (tysOk.get rfl) rfl (by repeat (first | exact Has.here | apply Has.there)) rfl) rfl ?_)) | ((with_reducible refine Knd.fieldAddr ?_); (refine Exec.stab rfl (Stab.fieldZ rfl (tysOk.get rfl) rfl rfl (tysOk.get rfl) rfl) rfl ?_)) | ((with_reducible refine Knd.len ?_); (refine Exec.stab rfl (Stab.len rfl (tysOk.get rfl) rfl) rfl ?_)) | ((with_reducible refine Knd.binOp ?_); (refine Exec.stab rfl (Stab.int rfl rfl rfl) rfl ?_)))) | (with_reducible first | apply Tr.next | apply Tr.seq | apply Tr.region | apply Tr.nil | apply Tr.skip | apply Tr.block) | (refine Tr.cond_t rfl (by first | (with_reducible assumption) | omega) ?_)))
    (((apply Tr.draw); (kernel_rfl)); (refine TrA.take 0 (by kernel_rfl) rfl (by kernel_rfl) (by exact fun _ _ _ h => h) (by exact fun _ h => h) rfl (by exact Stab.fieldZ rfl (tysOk.get rfl) rfl rfl (tysOk.get rfl) rfl) rfl rfl ?_); (refine TrA.take 2 (by kernel_rfl) rfl (by kernel_rfl) (by exact fun _ _ _ h => h) (by exact fun _ h => h) rfl (by first | exact Stab.move rfl) rfl rfl ?_); (refine TrA.take 5 (by kernel_rfl) rfl (by kernel_rfl) (by exact fun _ _ _ h => h) (by exact fun _ h => h) rfl (by exact Stab.fieldZ rfl (tysOk.get rfl) rfl rfl (tysOk.get rfl) rfl) rfl rfl ?_); (refine TrA.take 7 (by kernel_rfl) rfl (by kernel_rfl) (by exact fun _ _ _ h => h) (by exact fun _ h => h) rfl (by first | exact Stab.move rfl) rfl rfl ?_); (refine TrA.take 1 (by kernel_rfl) rfl (by kernel_rfl) (by exact fun _ _ _ h => h) (by exact fun _ h => h) rfl (by exact Stab.load rfl (tysOk.get rfl) rfl (by repeat (first | exact Has.here | apply Has.there)) rfl) rfl rfl ?_); (refine TrA.take 6 (by kernel_rfl) rfl (by kernel_rfl) (by exact fun _ _ _ h => h) (by exact fun _ h => h) rfl (by exact Stab.load rfl (tysOk.get rfl) rfl (by repeat (first | exact Has.here | apply Has.there)) rfl) rfl rfl ?_); (refine TrA.take 3 (by kernel_rfl) rfl (by kernel_rfl) (by exact fun _ _ _ h => h) (by exact fun _ h => h) rfl (by exact Stab.indexAddr rfl rfl (tysOk.get rfl) rfl (tysOk.get rfl) rfl (by omega) (by omega) (by first | rfl | assumption)) rfl rfl ?_); (refine TrA.take 8 (by kernel_rfl) rfl (by kernel_rfl) (by exact fun _ _ _ h => h) (by exact fun _ h => h) rfl (by exact Stab.indexAddr rfl rfl (tysOk.get rfl) rfl (tysOk.get rfl) rfl (by omega) (by omega) (by first | rfl | assumption)) rfl rfl ?_); (refine TrA.take 4 (by kernel_rfl) rfl (by kernel_rfl) (by exact fun _ _ _ h => h) (by exact fun _ h => h) rfl (by exact Stab.loadMA rfl (tysOk.get rfl) rfl (by assumption) (by first | rfl | assumption)) rfl rfl ?_); (refine TrA.take 9 (by kernel_rfl) rfl (by kernel_rfl) (by exact fun _ _ _ h => h) (by exact fun _ h => h) rfl (by exact Stab.loadMA rfl (tysOk.get rfl) rfl (by assumption) (by first | rfl | assumption)) rfl rfl ?_); ((refine TrA.take 10 (by kernel_rfl) rfl (by kernel_rfl) (by exact fun _ _ _ h => h) (by exact fun _ h => h) rfl (Stab.stne (rqI x) (rqI y) rfl rfl (tysOk.get rfl) rfl (tysOk.get (t := 3) rfl) rfl rfl (by kernel_rfl) (by kernel_rfl) rfl rfl) rfl rfl ?_)); (refine TrA.done (by kernel_rfl) ?_))
    by_cases e : x = y
    · have e2 : ¬ (rqI x ≠ rqI y) := fun h => h (rqI_inj.2 e)
      (repeat (first | ((with_reducible refine Tr.step rfl ?_); (first | ((with_reducible refine Knd.move ?_); (refine Exec.stab rfl (Stab.move rfl) rfl ?_)) | ((with_reducible refine Knd.assign ?_); (refine Exec.stab rfl (Stab.assign rfl) rfl ?_)) | ((with_reducible refine Knd.binOp ?_); (refine Exec.stab rfl (Stab.addi rfl rfl (by omega)) rfl ?_)))) | (with_reducible first | apply Tr.next | apply Tr.region | apply Tr.nil | apply Tr.skip | apply Tr.in_normal) | (refine Tr.cond_f rfl (by (with_reducible assumption)) ?_)))
      exact Tr.again (i + 1) ⟨by omega, upto_next hall (by rw [hx, hy, e])⟩ (by omega) (holds_sub (by repeat (first | exact SubFr.nil | refine SubFr.cons rfl ?_)) (by repeat (first | exact DropL.refl | apply DropL.skip)))
    · have e2 : rqI x ≠ rqI y := fun h => e (rqI_inj.1 h)
      (repeat (first | ((with_reducible refine Tr.step rfl ?_); (with_reducible refine Knd.assign ?_); (refine Exec.stab rfl (Stab.assign rfl) rfl ?_)) | (with_reducible first | apply Tr.next | apply Tr.seq | apply Tr.region | apply Tr.nil | apply Tr.ret | apply Tr.then_ret | apply Tr.in_ret) | (refine Tr.cond_t rfl (by (with_reducible assumption)) ?_)))
      (refine Tr.done (by first | exact .inl rfl | exact .inr rfl) rfl (by repeat (first | exact RVs.nil | (apply RVs.cons; (exact RV.tmp rfl)))) (by first | exact Mem.le.refl _ | assumption) (by exact ⟨[_, _], rfl⟩) ⟨rfl, ?_⟩)
      exact ⟨⟨false, rfl, by simp only [Bool.false_eq_true, false_iff]; exact hne e⟩, rfl⟩
  have ei : p.reqs.length = i := by omega
  subst ei
  have er := eq_upto c3 hall
  clear hall hlt hi
  (repeat (first | ((with_reducible refine Tr.step rfl ?_); (first | ((with_reducible refine Knd.move ?_); (refine Exec.stab rfl (Stab.move rfl) rfl ?_)) | ((with_reducible refine Knd.assign ?_); (refine Exec.stab rfl (Stab.assign rfl) rfl ?_)) | ((with_reducible refine Knd.load ?_); (refine Exec.stab rfl (Stab.load rfl (tysOk.get rfl) rfl (by repeat (first | exact Has.here | apply Has.there)) rfl) rfl ?_)) | ((with_reducible refine Knd.fieldAddr ?_); (refine Exec.stab rfl (Stab.fieldZ rfl (tysOk.get rfl) rfl rfl (tysOk.get rfl) rfl) rfl ?_)) | ((with_reducible refine Knd.len ?_); (refine Exec.stab rfl (Stab.len rfl (tysOk.get rfl) rfl) rfl ?_)) | ((with_reducible refine Knd.binOp ?_); (refine Exec.stab rfl (Stab.int rfl rfl rfl) rfl ?_)))) | (with_reducible first | apply Tr.next | apply Tr.seq | apply Tr.region | apply Tr.nil | apply Tr.block | apply Tr.exit | apply Tr.then_exit) | ((with_reducible refine Tr.in_exit ?_ ?_); (exact rfl)) | (refine Tr.cond_f rfl (by omega) ?_)))
  refine Tr.loop (α := Nat) (fun y => ⟨133, [(7, .int .i64 (y : Int)), (3, .pointer (some ⟨b3, 0, none⟩)), (2, .pointer (some ⟨b2, 0, none⟩))], [], M, box b3 27 [.int .i64 q.known, .slice Bs q.sups.length ds, .slice Br q.reqs.length dr, .slice Bf q.fits.length df, .slice Bd q.reads dd] :: box b2 27 [.int .i64 p.known, .slice As p.sups.length cs, .slice Ar p.reqs.length cr, .slice Af p.fits.length cf, .slice Ad p.reads cd] :: ([] ++ F)⟩)
    (fun y => y ≤ p.fits.length ∧ ∀ t, t < y → p.fits[t]? = q.fits[t]?) (fun y => p.fits.length - y) 0 ⟨Nat.zero_le _, fun t ht => by omega⟩ (holds_sub (by repeat (first | exact SubFr.nil | refine SubFr.cons rfl ?_)) (by repeat (first | exact DropL.refl | apply DropL.skip))) (fun i hi => ?_)
  obtain ⟨hi, hall⟩ := hi
  by_cases hlt : i < p.fits.length
  rotate_left
  · have ei : p.fits.length = i := by omega
    subst ei
    have ef := eq_upto c4 hall
    (repeat (first | ((with_reducible refine Tr.step rfl ?_); (first | ((with_reducible refine Knd.move ?_); (refine Exec.stab rfl (Stab.move rfl) rfl ?_)) | ((with_reducible refine Knd.assign ?_); (refine Exec.stab rfl (Stab.assign rfl) rfl ?_)) | ((with_reducible refine Knd.load ?_); (refine Exec.stab rfl (Stab.load rfl (tysOk.get rfl) rfl (by repeat (first | exact Has.here | apply Has.there)) rfl) rfl ?_)) | ((with_reducible refine Knd.fieldAddr ?_); (refine Exec.stab rfl (Stab.fieldZ rfl (tysOk.get rfl) rfl rfl (tysOk.get rfl) rfl) rfl ?_)) | ((with_reducible refine Knd.len ?_); (refine Exec.stab rfl (Stab.len rfl (tysOk.get rfl) rfl) rfl ?_)) | ((with_reducible refine Knd.binOp ?_); (refine Exec.stab rfl (Stab.int rfl rfl rfl) rfl ?_)))) | (with_reducible first | apply Tr.next | apply Tr.seq | apply Tr.region | apply Tr.nil | apply Tr.exit | apply Tr.ret | apply Tr.then_exit) | ((with_reducible refine Tr.in_exit ?_ ?_); (exact rfl)) | (refine Tr.cond_f rfl (by first | (with_reducible assumption) | omega) ?_)))
    (refine Tr.done (by first | exact .inl rfl | exact .inr rfl) rfl (by repeat (first | exact RVs.nil | (apply RVs.cons; (exact RV.tmp rfl)))) (by first | exact Mem.le.refl _ | assumption) (by exact ⟨[_, _], rfl⟩) ⟨rfl, ?_⟩)
    refine ⟨⟨true, rfl, by simp only [true_iff]; obtain ⟨a1, a2, a3, a4, a5⟩ := p; obtain ⟨b1, b2, b3, b4, b5⟩ := q; simp only at c1 es er ef c5; rw [c1, es, er, ef, c5]⟩, rfl⟩
  obtain ⟨x, hx⟩ := get_of_lt hlt
  obtain ⟨y, hy⟩ := get_of_lt (xs := q.fits) (i := i) (by omega)
  obtain ⟨hA, chx, hatx, Ax, nx, rfl, hIx⟩ := h3.elem hx
  obtain ⟨hB, chy, haty, Ay, ny, rfl, hIy⟩ := q3.elem hy
  have hne : x ≠ y → ¬ p = q := fun hn h => hn (by rw [h, hy] at hx; exact (Option.some.inj hx).symm)
  have hxl := hIx.len_le
  have hyl := hIy.len_le
  (repeat (first | ((with_reducible refine Tr.step rfl ?_); (first | ((with_reducible refine Knd.move ?_); (refine Exec.stab rfl (Stab.move rfl) rfl ?_)) | ((with_reducible refine Knd.load ?_); (refine Exec.stab rfl (Stab.load rfl (tysOk.get rfl) rfl (by repeat (first | exact Has.here | apply Has.there)) rfl) rfl ?_)) | ((with_reducible refine Knd.fieldAddr ?_); (refine Exec.stab rfl (Stab.fieldZ rfl (tysOk.get rfl) rfl rfl (tysOk.get rfl) rfl) rfl ?_)) | ((with_reducible refine Knd.len ?_); (refine Exec.stab rfl (Stab.len rfl (tysOk.get rfl) rfl) rfl ?_)) | ((with_reducible refine Knd.binOp ?_); (refine Exec.stab rfl (Stab.int rfl rfl rfl) rfl ?_)))) | (with_reducible first | apply Tr.next | apply Tr.seq | apply Tr.region | apply Tr.nil | apply Tr.skip | apply Tr.block) | (refine Tr.cond_t rfl (by first | (with_reducible assumption) | omega) ?_)))
  (((apply Tr.draw); (kernel_rfl)); (refine TrA.take 0 (by kernel_rfl) rfl (by kernel_rfl) (by exact fun _ _ _ h => h) (by exact fun _ h => h) rfl (by exact Stab.fieldZ rfl (tysOk.get rfl) rfl rfl (tysOk.get rfl) rfl) rfl rfl ?_); (refine TrA.take 2 (by kernel_rfl) rfl (by kernel_rfl) (by exact fun _ _ _ h => h) (by exact fun _ h => h) rfl (by first | exact Stab.move rfl) rfl rfl ?_); (refine TrA.take 6 (by kernel_rfl) rfl (by kernel_rfl) (by exact fun _ _ _ h => h) (by exact fun _ h => h) rfl (by exact Stab.fieldZ rfl (tysOk.get rfl) rfl rfl (tysOk.get rfl) rfl) rfl rfl ?_); (refine TrA.take 8 (by kernel_rfl) rfl (by kernel_rfl) (by exact fun _ _ _ h => h) (by exact fun _ h => h) rfl (by first | exact Stab.move rfl) rfl rfl ?_); (refine TrA.take 1 (by kernel_rfl) rfl (by kernel_rfl) (by exact fun _ _ _ h => h) (by exact fun _ h => h) rfl (by exact Stab.load rfl (tysOk.get rfl) rfl (by repeat (first | exact Has.here | apply Has.there)) rfl) rfl rfl ?_); (refine TrA.take 7 (by kernel_rfl) rfl (by kernel_rfl) (by exact fun _ _ _ h => h) (by exact fun _ h => h) rfl (by exact Stab.load rfl (tysOk.get rfl) rfl (by repeat (first | exact Has.here | apply Has.there)) rfl) rfl rfl ?_); (refine TrA.take 3 (by kernel_rfl) rfl (by kernel_rfl) (by exact fun _ _ _ h => h) (by exact fun _ h => h) rfl (by exact Stab.indexAddr rfl rfl (tysOk.get rfl) rfl (tysOk.get rfl) rfl (by omega) (by omega) (by first | rfl | assumption)) rfl rfl ?_); (refine TrA.take 9 (by kernel_rfl) rfl (by kernel_rfl) (by exact fun _ _ _ h => h) (by exact fun _ h => h) rfl (by exact Stab.indexAddr rfl rfl (tysOk.get rfl) rfl (tysOk.get rfl) rfl (by omega) (by omega) (by first | rfl | assumption)) rfl rfl ?_); (refine TrA.take 4 (by kernel_rfl) rfl (by kernel_rfl) (by exact fun _ _ _ h => h) (by exact fun _ h => h) rfl (by exact Stab.loadM rfl (tysOk.get rfl) rfl (by assumption)) rfl rfl ?_); (refine TrA.take 10 (by kernel_rfl) rfl (by kernel_rfl) (by exact fun _ _ _ h => h) (by exact fun _ h => h) rfl (by exact Stab.loadM rfl (tysOk.get rfl) rfl (by assumption)) rfl rfl ?_); (refine TrA.take 5 (by kernel_rfl) rfl (by kernel_rfl) (by exact fun _ _ _ h => h) (by exact fun _ h => h) rfl (by exact Stab.len rfl (tysOk.get rfl) rfl) rfl rfl ?_); (refine TrA.take 11 (by kernel_rfl) rfl (by kernel_rfl) (by exact fun _ _ _ h => h) (by exact fun _ h => h) rfl (by exact Stab.len rfl (tysOk.get rfl) rfl) rfl rfl ?_); (refine TrA.take 12 (by kernel_rfl) rfl (by kernel_rfl) (by exact fun _ _ _ h => h) (by exact fun _ h => h) rfl (by exact Stab.int rfl rfl rfl) rfl rfl ?_); (refine TrA.done (by kernel_rfl) ?_))
  by_cases c6 : x.length = y.length
  rotate_left
  · (repeat (first | ((with_reducible refine Tr.step rfl ?_); (with_reducible refine Knd.assign ?_); (refine Exec.stab rfl (Stab.assign rfl) rfl ?_)) | (with_reducible first | apply Tr.next | apply Tr.seq | apply Tr.region | apply Tr.nil | apply Tr.ret | apply Tr.then_ret | apply Tr.in_ret) | (refine Tr.cond_t rfl (by first | (with_reducible assumption) | omega) ?_)))
    (refine Tr.done (by first | exact .inl rfl | exact .inr rfl) rfl (by repeat (first | exact RVs.nil | (apply RVs.cons; (exact RV.tmp rfl)))) (by first | exact Mem.le.refl _ | assumption) (by exact ⟨[_, _], rfl⟩) ⟨rfl, ?_⟩)
    exact ⟨⟨false, rfl, by simp only [Bool.false_eq_true, false_iff]; exact hne (fun h => c6 (by rw [h]))⟩, rfl⟩
  (repeat (first | ((with_reducible refine Tr.step rfl ?_); (with_reducible refine Knd.assign ?_); (refine Exec.stab rfl (Stab.assign rfl) rfl ?_)) | (with_reducible first | apply Tr.next | apply Tr.seq | apply Tr.region | apply Tr.nil | apply Tr.skip | apply Tr.block) | (refine Tr.cond_f rfl (by omega) ?_)))
  refine Tr.loop (α := Nat) (fun y => ⟨133, [(8, .int .i64 (y : Int)), (7, .int .i64 (i : Int)), (3, .pointer (some ⟨b3, 0, none⟩)), (2, .pointer (some ⟨b2, 0, none⟩))], [], M, box b3 27 [.int .i64 q.known, .slice Bs q.sups.length ds, .slice Br q.reqs.length dr, .slice Bf q.fits.length df, .slice Bd q.reads dd] :: box b2 27 [.int .i64 p.known, .slice As p.sups.length cs, .slice Ar p.reqs.length cr, .slice Af p.fits.length cf, .slice Ad p.reads cd] :: ([] ++ F)⟩)
    (fun j => j ≤ x.length ∧ ∀ t, t < j → x[t]? = y[t]?) (fun j => x.length - j) 0 ⟨Nat.zero_le _, fun t ht => by omega⟩ (holds_sub (by repeat (first | exact SubFr.nil | refine SubFr.cons rfl ?_)) (by repeat (first | exact DropL.refl | apply DropL.skip))) (fun j hj => ?_)
  obtain ⟨hj, hrow⟩ := hj
  by_cases hlt2 : j < x.length
  · obtain ⟨u, hu⟩ := get_of_lt hlt2
    obtain ⟨z, hz⟩ := get_of_lt (xs := y) (i := j) (by omega)
    obtain ⟨hA2, hat2⟩ := Bools.at hIx hu
    obtain ⟨hB2, hbt2⟩ := Bools.at hIy hz
    (repeat (first | ((with_reducible refine Tr.step rfl ?_); (first | ((with_reducible refine Knd.move ?_); (refine Exec.stab rfl (Stab.move rfl) rfl ?_)) | ((with_reducible refine Knd.load ?_); (first | (refine Exec.stab rfl (Stab.load rfl (tysOk.get rfl) rfl (by repeat (first | exact Has.here | apply Has.there)) rfl) rfl ?_) | (refine Exec.stab rfl (Stab.loadM rfl (tysOk.get rfl) rfl (by assumption)) rfl ?_))) | ((with_reducible refine Knd.fieldAddr ?_); (refine Exec.stab rfl (Stab.fieldZ rfl (tysOk.get rfl) rfl rfl (tysOk.get rfl) rfl) rfl ?_)) | ((with_reducible refine Knd.len ?_); (refine Exec.stab rfl (Stab.len rfl (tysOk.get rfl) rfl) rfl ?_)) | ((with_reducible refine Knd.binOp ?_); (refine Exec.stab rfl (Stab.int rfl rfl rfl) rfl ?_)) | ((with_reducible refine Knd.indexAddr ?_); (refine Exec.stab rfl (Stab.indexAddr rfl rfl (tysOk.get rfl) rfl (tysOk.get rfl) rfl (by omega) (by omega) (by first | rfl | assumption)) rfl ?_)))) | (with_reducible first | apply Tr.next | apply Tr.seq | apply Tr.region | apply Tr.nil | apply Tr.skip | apply Tr.block) | (refine Tr.cond_t rfl (by first | (with_reducible assumption) | omega) ?_)))
    (((apply Tr.draw); (kernel_rfl)); (refine TrA.take 0 (by kernel_rfl) rfl (by kernel_rfl) (by exact fun _ _ _ h => h) (by exact fun _ h => h) rfl (by exact Stab.fieldZ rfl (tysOk.get rfl) rfl rfl (tysOk.get rfl) rfl) rfl rfl ?_); (refine TrA.take 2 (by kernel_rfl) rfl (by kernel_rfl) (by exact fun _ _ _ h => h) (by exact fun _ h => h) rfl (by first | exact Stab.move rfl) rfl rfl ?_); (refine TrA.take 5 (by kernel_rfl) rfl (by kernel_rfl) (by exact fun _ _ _ h => h) (by exact fun _ h => h) rfl (by first | exact Stab.move rfl) rfl rfl ?_); (refine TrA.take 8 (by kernel_rfl) rfl (by kernel_rfl) (by exact fun _ _ _ h => h) (by exact fun _ h => h) rfl (by exact Stab.fieldZ rfl (tysOk.get rfl) rfl rfl (tysOk.get rfl) rfl) rfl rfl ?_); (refine TrA.take 10 (by kernel_rfl) rfl (by kernel_rfl) (by exact fun _ _ _ h => h) (by exact fun _ h => h) rfl (by first | exact Stab.move rfl) rfl rfl ?_); (refine TrA.take 13 (by kernel_rfl) rfl (by kernel_rfl) (by exact fun _ _ _ h => h) (by exact fun _ h => h) rfl (by first | exact Stab.move rfl) rfl rfl ?_); (refine TrA.take 1 (by kernel_rfl) rfl (by kernel_rfl) (by exact fun _ _ _ h => h) (by exact fun _ h => h) rfl (by exact Stab.load rfl (tysOk.get rfl) rfl (by repeat (first | exact Has.here | apply Has.there)) rfl) rfl rfl ?_); (refine TrA.take 9 (by kernel_rfl) rfl (by kernel_rfl) (by exact fun _ _ _ h => h) (by exact fun _ h => h) rfl (by exact Stab.load rfl (tysOk.get rfl) rfl (by repeat (first | exact Has.here | apply Has.there)) rfl) rfl rfl ?_); (refine TrA.take 3 (by kernel_rfl) rfl (by kernel_rfl) (by exact fun _ _ _ h => h) (by exact fun _ h => h) rfl (by exact Stab.indexAddr rfl rfl (tysOk.get rfl) rfl (tysOk.get rfl) rfl (by omega) (by omega) (by first | rfl | assumption)) rfl rfl ?_); (refine TrA.take 11 (by kernel_rfl) rfl (by kernel_rfl) (by exact fun _ _ _ h => h) (by exact fun _ h => h) rfl (by exact Stab.indexAddr rfl rfl (tysOk.get rfl) rfl (tysOk.get rfl) rfl (by omega) (by omega) (by first | rfl | assumption)) rfl rfl ?_); (refine TrA.take 4 (by kernel_rfl) rfl (by kernel_rfl) (by exact fun _ _ _ h => h) (by exact fun _ h => h) rfl (by exact Stab.loadM rfl (tysOk.get rfl) rfl (by assumption)) rfl rfl ?_); (refine TrA.take 12 (by kernel_rfl) rfl (by kernel_rfl) (by exact fun _ _ _ h => h) (by exact fun _ h => h) rfl (by exact Stab.loadM rfl (tysOk.get rfl) rfl (by assumption)) rfl rfl ?_); (refine TrA.take 6 (by kernel_rfl) rfl (by kernel_rfl) (by exact fun _ _ _ h => h) (by exact fun _ h => h) rfl (by exact Stab.indexAddr rfl rfl (tysOk.get rfl) rfl (tysOk.get rfl) rfl (by omega) (by omega) (by first | rfl | assumption)) rfl rfl ?_); (refine TrA.take 14 (by kernel_rfl) rfl (by kernel_rfl) (by exact fun _ _ _ h => h) (by exact fun _ h => h) rfl (by exact Stab.indexAddr rfl rfl (tysOk.get rfl) rfl (tysOk.get rfl) rfl (by omega) (by omega) (by first | rfl | assumption)) rfl rfl ?_); (refine TrA.take 7 (by kernel_rfl) rfl (by kernel_rfl) (by exact fun _ _ _ h => h) (by exact fun _ h => h) rfl (by exact Stab.loadM rfl (tysOk.get rfl) rfl (by assumption)) rfl rfl ?_); (refine TrA.take 15 (by kernel_rfl) rfl (by kernel_rfl) (by exact fun _ _ _ h => h) (by exact fun _ h => h) rfl (by exact Stab.loadM rfl (tysOk.get rfl) rfl (by assumption)) rfl rfl ?_); (refine TrA.take 16 (by kernel_rfl) rfl (by kernel_rfl) (by exact fun _ _ _ h => h) (by exact fun _ h => h) rfl (by exact Stab.boolne rfl rfl (tysOk.get rfl) rfl) rfl rfl ?_); (refine TrA.done (by kernel_rfl) ?_))
    by_cases e : u = z
    · have e2 : ¬ ¬ u = z := fun h => h e
      (repeat (first | ((with_reducible refine Tr.step rfl ?_); (first | ((with_reducible refine Knd.move ?_); (refine Exec.stab rfl (Stab.move rfl) rfl ?_)) | ((with_reducible refine Knd.assign ?_); (refine Exec.stab rfl (Stab.assign rfl) rfl ?_)) | ((with_reducible refine Knd.binOp ?_); (refine Exec.stab rfl (Stab.addi rfl rfl (by omega)) rfl ?_)))) | (with_reducible first | apply Tr.next | apply Tr.region | apply Tr.nil | apply Tr.skip | apply Tr.in_normal) | (refine Tr.cond_f rfl (by (with_reducible assumption)) ?_)))
      exact Tr.again (j + 1) ⟨by omega, upto_next hrow (by rw [hu, hz, e])⟩ (by omega) (holds_sub (by repeat (first | exact SubFr.nil | refine SubFr.cons rfl ?_)) (by repeat (first | exact DropL.refl | apply DropL.skip)))
    · (repeat (first | ((with_reducible refine Tr.step rfl ?_); (with_reducible refine Knd.assign ?_); (refine Exec.stab rfl (Stab.assign rfl) rfl ?_)) | (with_reducible first | apply Tr.next | apply Tr.seq | apply Tr.region | apply Tr.nil | apply Tr.ret | apply Tr.then_ret | apply Tr.in_ret) | (refine Tr.cond_t rfl (by (with_reducible assumption)) ?_)))
      (refine Tr.done (by first | exact .inl rfl | exact .inr rfl) rfl (by repeat (first | exact RVs.nil | (apply RVs.cons; (exact RV.tmp rfl)))) (by first | exact Mem.le.refl _ | assumption) (by exact ⟨[_, _], rfl⟩) ⟨rfl, ?_⟩)
      exact ⟨⟨false, rfl, by simp only [Bool.false_eq_true, false_iff]; exact hne (fun h => e (by rw [h, hz] at hu; exact (Option.some.inj hu).symm))⟩, rfl⟩
  have ej : x.length = j := by omega
  subst ej
  have exy := eq_upto c6 hrow
  (repeat (first | ((with_reducible refine Tr.step rfl ?_); (first | ((with_reducible refine Knd.move ?_); (refine Exec.stab rfl (Stab.move rfl) rfl ?_)) | ((with_reducible refine Knd.assign ?_); (refine Exec.stab rfl (Stab.assign rfl) rfl ?_)) | ((with_reducible refine Knd.load ?_); (first | (refine Exec.stab rfl (Stab.load rfl (tysOk.get rfl) rfl (by repeat (first | exact Has.here | apply Has.there)) rfl) rfl ?_) | (refine Exec.stab rfl (Stab.loadM rfl (tysOk.get rfl) rfl (by assumption)) rfl ?_))) | ((with_reducible refine Knd.fieldAddr ?_); (refine Exec.stab rfl (Stab.fieldZ rfl (tysOk.get rfl) rfl rfl (tysOk.get rfl) rfl) rfl ?_)) | ((with_reducible refine Knd.len ?_); (refine Exec.stab rfl (Stab.len rfl (tysOk.get rfl) rfl) rfl ?_)) | ((with_reducible refine Knd.binOp ?_); (first | (refine Exec.stab rfl (Stab.addi rfl rfl (by omega)) rfl ?_) | (refine Exec.stab rfl (Stab.int rfl rfl rfl) rfl ?_))) | ((with_reducible refine Knd.indexAddr ?_); (refine Exec.stab rfl (Stab.indexAddr rfl rfl (tysOk.get rfl) rfl (tysOk.get rfl) rfl (by omega) (by omega) (by first | rfl | assumption)) rfl ?_)))) | (with_reducible first | apply Tr.next | apply Tr.seq | apply Tr.region | apply Tr.nil | apply Tr.exit | apply Tr.then_exit | apply Tr.in_normal) | ((with_reducible refine Tr.in_exit ?_ ?_); (exact rfl)) | (refine Tr.cond_f rfl (by first | (with_reducible assumption) | omega) ?_)))
  exact Tr.again (i + 1) ⟨by omega, upto_next hall (by rw [hx, hy, exy])⟩ (by omega) (holds_sub (by repeat (first | exact SubFr.nil | refine SubFr.cons rfl ?_)) (by repeat (first | exact DropL.refl | apply DropL.skip)))
end Go.Proofs.Ytgnipfjjkliibaa

