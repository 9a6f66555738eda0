/-
  Matching: the row of MatchingCheckSpec.
  Conditions: none.
-/
import Derived.Test.YtmioocddmlfboaaBfRow
import Derived.Test.YtmioocddmlfboaaRows
import Derived.ProofKit
import Derived.Test.YtmioocddmlfboaaQ3b
/-
  Matching: the contract of the program's Cut.
  Conditions: none.
-/
namespace Go.Proofs.Ytmioocddmlfboaa
open Go Bf
attribute [local irreducible] Tr Exec Stab HasTy Go.Addr.add IntKind.wrap
/-- the list is strictly ascending and within the requests, up to i -/
def AscTo (m : Nat) (l : List Int) (i : Nat) : Prop := ∀ q x, q < i → l[q]? = some x → 0 ≤ x ∧ x < m ∧ ∀ y, 0 < q → l[q - 1]? = some y → y < x
def cutNeed (need : List Int) (l : List Int) : Int := (l.map fun x => need.getD x.toNat 0).sum
def cutTouch (row : List Bool) (l : List Int) : Bool := l.any fun x => row.getD x.toNat false
def cutHave (fits : List (List Bool)) (sup : List Int) (l : List Int) (i : Nat) : Int := sumN i fun k => if cutTouch (fits.getD k []) l then sup.getD k 0 else 0
def CutP (fits : List (List Bool)) (sup need l : List Int) : Prop := AscTo need.length l l.length ∧ cutHave fits sup l sup.length < cutNeed need l
def CutR (fits : List (List Bool)) (sup need l : List Int) (r : Value) : Prop :=
  (validF fits sup need = false ∧ r = .tuple #[.bool false, .int .i64 300]) ∨ (Vld fits sup need ∧ ∃ b : Bool, r = .tuple #[.bool b, .int .i64 0] ∧ (b = true ↔ CutP fits sup need l))
theorem CutR.no {fits : List (List Bool)} {sup need l : List Int} (hv : Vld fits sup need) (h : ¬ AscTo need.length l l.length) : CutR fits sup need l (.tuple #[.bool false, .int .i64 0]) := .inr ⟨hv, false, rfl, by simp [CutP, h]⟩
theorem AscTo.step {m i : Nat} {l : List Int} {x : Int} (h : AscTo m l i) (hx : l[i]? = some x) (h1 : 0 ≤ x ∧ x < m) (h2 : ∀ y, 0 < i → l[i - 1]? = some y → y < x) : AscTo m l (i + 1) := fun q z hq hz => by
  by_cases e : q = i
  · subst e
    rw [hx] at hz
    cases hz
    exact ⟨h1.1, h1.2, h2⟩
  · exact h q z (by omega) hz
theorem AscTo.ge {m : Nat} {l : List Int} : ∀ {i : Nat}, AscTo m l i → i ≤ l.length → ∀ x, 0 < i → l[i - 1]? = some x → (i : Int) - 1 ≤ x ∧ x < m
  | 0, _, _, _, h, _ => by omega
  | i + 1, h, hl, x, _, hx => by
    simp only [Nat.add_sub_cancel] at hx
    have h1 := h i x (by omega) hx
    by_cases e : i = 0
    · subst e; exact ⟨by simpa using h1.1, h1.2.1⟩
    · obtain ⟨y, hy⟩ := get_of_lt (xs := l) (i := i - 1) (by omega)
      have h2 := AscTo.ge (i := i) (fun q z hq hz => h q z (by omega) hz) (by omega) y (by omega) hy
      have h3 := h1.2.2 y (by omega) hy
      exact ⟨by push_cast; omega, h1.2.1⟩
theorem AscTo.count {m i : Nat} {l : List Int} (h : AscTo m l i) (hl : i ≤ l.length) : i ≤ m := by
  by_cases e : i = 0
  · omega
  · obtain ⟨y, hy⟩ := get_of_lt (xs := l) (i := i - 1) (by omega)
    have := h.ge hl y (by omega) hy
    omega
theorem cutNeed_succ {need l : List Int} {i : Nat} {x : Int} (hx : l[i]? = some x) : cutNeed need (l.take (i + 1)) = cutNeed need (l.take i) + need.getD x.toNat 0 := by
  unfold cutNeed
  rw [List.take_add_one, hx]
  simp
theorem cutNeed_rng {need : List Int} (h : ∀ x ∈ need, 0 ≤ x ∧ x ≤ 1048576) : ∀ (l : List Int), 0 ≤ cutNeed need l ∧ cutNeed need l ≤ 1048576 * l.length
  | [] => by simp [cutNeed]
  | x :: l => by
    have h1 := cutNeed_rng h l
    have h2 := getD_rng h x.toNat
    have e : cutNeed need (x :: l) = need.getD x.toNat 0 + cutNeed need l := rfl
    rw [e, List.length_cons]
    push_cast
    omega
theorem cutHave_rng {fits : List (List Bool)} {sup : List Int} (h : ∀ x ∈ sup, 0 ≤ x ∧ x ≤ 1048576) (l : List Int) (i : Nat) : 0 ≤ cutHave fits sup l i ∧ cutHave fits sup l i ≤ 1048576 * i := sum_small (fun k _ => by
  have := getD_rng h k
  split
  · exact this
  · exact ⟨Int.le_refl _, by decide⟩)
theorem cutHave_succ (fits : List (List Bool)) (sup l : List Int) (i : Nat) : cutHave fits sup l (i + 1) = cutHave fits sup l i + if cutTouch (fits.getD i []) l then sup.getD i 0 else 0 := rfl
set_option maxHeartbeats 1000000 in
theorem cut1_fn (M : Mem) (rb : Nat) (B : Option Addr) (k : Nat) (row : List Bool) (hb : (box rb 43 [.slice B row.length k]).ok M) (hB : Bools M (.slice B row.length k) row) (x : Int) (h0 : 0 ≤ x) (h1 : x < row.length) :
    Fn0 Try.prog 28 ([.int .i64 x] ++ [.pointer (some ⟨rb, 0, none⟩)]) M (fun r M' => r = .bool (row.getD x.toNat false) ∧ M = M') := by
  obtain ⟨n, rfl⟩ : ∃ n : Nat, x = (n : Int) := ⟨x.toNat, by omega⟩
  obtain ⟨v, hv⟩ := get_of_lt (xs := row) (i := n) (by omega)
  obtain ⟨hA, hat⟩ := hB.at hv
  have hl := hB.len_le
  have hrow := Row.of_box (n := 1) (sz := 1) hb (by simp) (by simp [Value.oneCell'])
  have hat2 := (hrow.pos (by decide)).2
  refine Fn.intro Try.func28 rfl rfl Try.ntmps28 rfl fun E F => ?_
  simp only [List.cons_append, List.nil_append]
  repeat (first | ((with_reducible refine Tr.step rfl ?_); (first | ((with_reducible refine Knd.move ?_); (refine Exec.stab rfl (Stab.move rfl) rfl ?_)) | ((with_reducible refine Knd.assign ?_); (refine Exec.stab rfl (Stab.assign rfl) rfl ?_)) | ((with_reducible refine Knd.load ?_); ((refine Exec.stab rfl (Stab.loadM rfl (tysOk.get rfl) rfl (by assumption)) rfl ?_))) | ((with_reducible refine Knd.indexAddr ?_); ((refine Exec.stab rfl (Stab.indexAddr rfl rfl (tysOk.get rfl) rfl (tysOk.get rfl) rfl (by omega) (by omega) (by first | rfl | assumption)) rfl ?_))))) | (with_reducible refine Tr.next ?_) | (with_reducible refine Tr.seq ?_) | (with_reducible refine Tr.region ?_) | (with_reducible refine Tr.nil ?_) | (with_reducible refine Tr.ret ?_))
  (refine Tr.done (by first | exact .inl rfl | exact .inr rfl) rfl (by repeat (first | exact RVs.nil | (apply RVs.cons; (exact RV.tmp rfl)))) (by first | exact Mem.le.refl _ | assumption) (by exact ⟨[], rfl⟩) ⟨rfl, ?_⟩)
  exact ⟨by rw [Int.toNat_natCast, getD_of hv]; rfl, rfl⟩
theorem touch_lend (M : Mem) (rb : Nat) (B : Option Addr) (k : Nat) (row : List Bool) (hB : Bools M (.slice B row.length k) row) (A : Option Addr) (c : Nat) (l : List Int) (hl : Ints M (.slice A l.length c) l) (hx : ∀ x ∈ l, 0 ≤ x ∧ x < row.length) :
    Bf.Fn Try.prog 27 [.slice A l.length c, .func (.func 28) #[] #[.pointer (some ⟨rb, 0, none⟩)]] M [box rb 43 [.slice B row.length k]] (fun r M' A' => A' = [box rb 43 [.slice B row.length k]] ∧ M = M' ∧ r = .bool (cutTouch row l)) :=
  Fn.lend (rs := [box rb 43 [.slice B row.length k]]) (R := fun r => r = .bool (cutTouch row l)) (clone_ok _ _ _ _ _ _ (containsFunc_fn M none 0 [] ⟨_, 0, [], rfl, by simp, by simp, by simp, Row.nil _ _ _, by simp⟩ 0 [] (fun _ => false) (by simp))) (fun M' hm hok =>
    containsFunc_fn M' A c l (hl.mono RI.mono hm) 28 [.pointer (some ⟨rb, 0, none⟩)] (fun x => row.getD x.toNat false) (fun x hxl => cut1_fn M' rb B k row (hok _ (by simp)) (hB.mono RBo.mono hm) x (hx x hxl).1 (hx x hxl).2))
set_option maxHeartbeats 8000000 in
set_option maxRecDepth 20000 in
theorem cut_fn (M : Mem) (A0 A1 A2 A3 : Option Addr) (c0 c1 c2 c3 : Nat) (fits : List (List Bool)) (sup need l : List Int) (hf : Fits2 M (.slice A0 fits.length c0) fits) (hs : Ints M (.slice A1 sup.length c1) sup) (hn : Ints M (.slice A2 need.length c2) need) (hl : Ints M (.slice A3 l.length c3) l) (rs : I64s sup) (rn : I64s need) :
    Fn0 Try.prog 13 [.slice A0 fits.length c0, .slice A1 sup.length c1, .slice A2 need.length c2, .slice A3 l.length c3] M (fun r M' => CutR fits sup need l r ∧ M = M') := by
  have la := hl.len_le
  refine Fn.intro Try.func13 rfl rfl Try.ntmps13 rfl fun E F => ?_
  repeat (first | ((with_reducible refine Tr.step rfl ?_); (first | ((with_reducible refine Knd.move ?_); (refine Exec.stab rfl (Stab.move rfl) rfl ?_)) | ((with_reducible refine Knd.assign ?_); (refine Exec.stab rfl (Stab.assign rfl) rfl ?_)))) | (with_reducible refine Tr.next ?_) | (with_reducible refine Tr.seq ?_) | (with_reducible refine Tr.region ?_) | (with_reducible refine Tr.nil ?_))
  ((refine Tr.step rfl ?_)); refine Exec.call0 rfl (valid_fn M A0 A1 A2 c0 c1 c2 fits sup need hf hs hn rs rn) rfl ?_
  rintro _ _ _ ⟨rfl, rfl⟩
  cases hvv : validF fits sup need
  · repeat (first | ((with_reducible refine Tr.step rfl ?_); (first | ((with_reducible refine Knd.assign ?_); (refine Exec.stab rfl (Stab.assign rfl) rfl ?_)) | ((with_reducible refine Knd.unOp ?_); ((refine Exec.stab rfl (Stab.not rfl) rfl ?_))))) | (with_reducible refine Tr.next ?_) | (with_reducible refine Tr.seq ?_) | (with_reducible refine Tr.region ?_) | (with_reducible refine Tr.nil ?_) | (with_reducible refine Tr.ret ?_) | (with_reducible refine Tr.then_ret ?_) | (refine Tr.cond_bt rfl (by first | (with_reducible rfl) | (with_reducible assumption) | (with_reducible exact Bool.not_true) | (with_reducible exact Bool.not_false)) ?_))
    (refine Tr.done (by first | exact .inl rfl | exact .inr rfl) rfl (by repeat (first | exact RVs.nil | (apply RVs.cons; (exact RV.tmp rfl)))) (by first | exact Mem.le.refl _ | assumption) (by exact ⟨[], rfl⟩) ⟨rfl, ?_⟩)
    exact ⟨.inl ⟨hvv, rfl⟩, rfl⟩
  have hv := vld_iff.1 hvv
  have l1 := hv.ls
  have l2 := hv.ln
  have l3 := hv.lf
  repeat (first | ((with_reducible refine Tr.step rfl ?_); (first | ((with_reducible refine Knd.move ?_); (refine Exec.stab rfl (Stab.move rfl) rfl ?_)) | ((with_reducible refine Knd.assign ?_); (refine Exec.stab rfl (Stab.assign rfl) rfl ?_)) | ((with_reducible refine Knd.len ?_); ((refine Exec.stab rfl (Stab.len rfl (tysOk.get rfl) rfl) rfl ?_))) | ((with_reducible refine Knd.unOp ?_); ((refine Exec.stab rfl (Stab.not rfl) rfl ?_))))) | (with_reducible refine Tr.next ?_) | (with_reducible refine Tr.seq ?_) | (with_reducible refine Tr.region ?_) | (with_reducible refine Tr.nil ?_) | (with_reducible refine Tr.skip ?_) | (with_reducible refine Tr.block ?_) | (refine Tr.cond_bf rfl (by first | (with_reducible rfl) | (with_reducible assumption) | (with_reducible exact Bool.not_true) | (with_reducible exact Bool.not_false)) ?_))
  refine Tr.loop (α := Nat × Int) (fun y => ⟨65, [(24, .int .i64 (y.1 : Int)), (23, .int .i64 (l.length : Int)), (22, .slice A3 l.length c3), (12, .int .i64 y.2), (11, .int .i64 0), (10, .int .i64 (cutNeed need (l.take y.1))), (0, .slice A0 fits.length c0), (1, .slice A1 sup.length c1), (2, .slice A2 need.length c2), (3, .slice A3 l.length c3)], [], M, [] ++ F⟩)
    (fun y => y.1 ≤ l.length ∧ AscTo need.length l y.1 ∧ ((y.1 = 0 ∧ y.2 = -1) ∨ (0 < y.1 ∧ l[y.1 - 1]? = some y.2))) (fun y => l.length - y.1) (0, -1) ⟨Nat.zero_le _, fun _ _ h => by omega, .inl ⟨rfl, rfl⟩⟩ (holds_sub (by repeat (first | exact SubFr.nil | refine SubFr.cons rfl ?_)) (by repeat (first | exact DropL.refl | apply DropL.skip))) (fun y hy => ?_)
  obtain ⟨i, last⟩ := y
  obtain ⟨hi, hasc, hlast⟩ := hy
  simp only at hi hasc hlast
  dsimp only
  have hcnt := hasc.count hi
  have hcn := cutNeed_rng hv.rn (l.take i)
  have htl : (l.take i).length = i := by simp; omega
  rw [htl] at hcn
  by_cases hil : i < l.length
  · obtain ⟨x, hx⟩ := get_of_lt hil
    obtain ⟨hA, hat⟩ := hl.at hx
    have hxi := hasc
    have hl0 : -1 ≤ last := by
      rcases hlast with ⟨h1, h2⟩ | ⟨h1, h2⟩
      · omega
      · have := hasc.ge hi last h1 h2; omega
    by_cases hxl : x ≤ last
    · repeat (first | ((with_reducible refine Tr.step rfl ?_); (first | ((with_reducible refine Knd.move ?_); (refine Exec.stab rfl (Stab.move rfl) rfl ?_)) | ((with_reducible refine Knd.assign ?_); (refine Exec.stab rfl (Stab.assign rfl) rfl ?_)) | ((with_reducible refine Knd.load ?_); ((refine Exec.stab rfl (Stab.loadM rfl (tysOk.get rfl) rfl (by assumption)) rfl ?_))) | ((with_reducible refine Knd.binOp ?_); ((refine Exec.stab rfl (Stab.int rfl rfl rfl) rfl ?_))) | ((with_reducible refine Knd.pick ?_); ((refine Exec.stab rfl (Stab.pick_td rfl (by first | (with_reducible assumption) | (with_reducible rfl) | (with_reducible exact (not_not_intro rfl)) | omega) rfl) rfl ?_))) | ((with_reducible refine Knd.indexAddr ?_); ((refine Exec.stab rfl (Stab.indexAddr rfl rfl (tysOk.get rfl) rfl (tysOk.get rfl) rfl (by omega) (by omega) (by first | rfl | assumption)) rfl ?_))))) | (with_reducible refine Tr.next ?_) | (with_reducible refine Tr.seq ?_) | (with_reducible refine Tr.region ?_) | (with_reducible refine Tr.nil ?_) | (refine Tr.guard_n' rfl rfl rfl (by first | (with_reducible assumption) | (with_reducible rfl) | (with_reducible exact (not_not_intro rfl)) | omega) rfl rfl ?_) | (with_reducible refine Tr.skip ?_) | (with_reducible refine Tr.block ?_) | (with_reducible refine Tr.ret ?_) | (with_reducible refine Tr.then_ret ?_) | (with_reducible refine Tr.in_ret ?_) | (refine Tr.cond_bt rfl (by first | (with_reducible rfl) | (with_reducible assumption) | (with_reducible exact Bool.not_true) | (with_reducible exact Bool.not_false)) ?_) | (refine Tr.cond_t rfl (by first | (with_reducible assumption) | (with_reducible rfl) | (with_reducible exact (not_not_intro rfl)) | omega) ?_))
      (refine Tr.done (by first | exact .inl rfl | exact .inr rfl) rfl (by repeat (first | exact RVs.nil | (apply RVs.cons; (exact RV.tmp rfl)))) (by first | exact Mem.le.refl _ | assumption) (by exact ⟨[], rfl⟩) ⟨rfl, ?_⟩)
      refine ⟨CutR.no hv fun h => ?_, rfl⟩
      have h1 := h i x hil hx
      rcases hlast with ⟨h2, h3⟩ | ⟨h2, h3⟩
      · omega
      · have := h1.2.2 last h2 h3; omega
    by_cases hxm : need.length ≤ x
    · repeat (first | ((with_reducible refine Tr.step rfl ?_); (first | ((with_reducible refine Knd.move ?_); (refine Exec.stab rfl (Stab.move rfl) rfl ?_)) | ((with_reducible refine Knd.assign ?_); (refine Exec.stab rfl (Stab.assign rfl) rfl ?_)) | ((with_reducible refine Knd.load ?_); ((refine Exec.stab rfl (Stab.loadM rfl (tysOk.get rfl) rfl (by assumption)) rfl ?_))) | ((with_reducible refine Knd.binOp ?_); ((refine Exec.stab rfl (Stab.int rfl rfl rfl) rfl ?_))) | ((with_reducible refine Knd.pick ?_); ((refine Exec.stab rfl (Stab.pick_fd rfl (by first | (with_reducible assumption) | (with_reducible rfl) | (with_reducible exact (not_not_intro rfl)) | omega) rfl) rfl ?_))) | ((with_reducible refine Knd.indexAddr ?_); ((refine Exec.stab rfl (Stab.indexAddr rfl rfl (tysOk.get rfl) rfl (tysOk.get rfl) rfl (by omega) (by omega) (by first | rfl | assumption)) rfl ?_))))) | (with_reducible refine Tr.next ?_) | (with_reducible refine Tr.seq ?_) | (with_reducible refine Tr.region ?_) | (with_reducible refine Tr.nil ?_) | ((refine Tr.guard_y' rfl rfl rfl (by first | (with_reducible assumption) | (with_reducible rfl) | (with_reducible exact (not_not_intro rfl)) | omega) ?_); (first | ((with_reducible refine Knd.move ?_); (refine Exec.stab rfl (Stab.move rfl) rfl ?_)) | ((with_reducible refine Knd.len ?_); ((refine Exec.stab rfl (Stab.len rfl (tysOk.get rfl) rfl) rfl ?_))) | ((with_reducible refine Knd.binOp ?_); ((refine Exec.stab rfl (Stab.int rfl rfl rfl) rfl ?_))))) | (with_reducible refine Tr.skip ?_) | (with_reducible refine Tr.block ?_) | (with_reducible refine Tr.ret ?_) | (with_reducible refine Tr.then_ret ?_) | (with_reducible refine Tr.in_ret ?_) | (refine Tr.cond_t rfl (by first | (with_reducible assumption) | (with_reducible rfl) | (with_reducible exact (not_not_intro rfl)) | omega) ?_))
      (refine Tr.done (by first | exact .inl rfl | exact .inr rfl) rfl (by repeat (first | exact RVs.nil | (apply RVs.cons; (exact RV.tmp rfl)))) (by first | exact Mem.le.refl _ | assumption) (by exact ⟨[], rfl⟩) ⟨rfl, ?_⟩)
      refine ⟨CutR.no hv fun h => ?_, rfl⟩
      have h1 := h i x hil hx
      omega
    obtain ⟨n, rfl⟩ : ∃ n : Nat, x = (n : Int) := ⟨x.toNat, by omega⟩
    obtain ⟨v, hv1⟩ := get_of_lt (xs := need) (i := n) (by omega)
    obtain ⟨hA2, nat2⟩ := hn.at hv1
    have hvr := hv.rn v (List.mem_of_getElem? hv1)
    have hsu := cutNeed_succ (need := need) hx
    rw [Int.toNat_natCast, getD_of hv1] at hsu
    repeat (first | ((with_reducible refine Tr.step rfl ?_); (first | ((with_reducible refine Knd.move ?_); (refine Exec.stab rfl (Stab.move rfl) rfl ?_)) | ((with_reducible refine Knd.assign ?_); (refine Exec.stab rfl (Stab.assign rfl) rfl ?_)) | ((with_reducible refine Knd.load ?_); ((refine Exec.stab rfl (Stab.loadM rfl (tysOk.get rfl) rfl (by assumption)) rfl ?_))) | ((with_reducible refine Knd.binOp ?_); (first | (refine Exec.stab rfl (Stab.addi rfl rfl (by omega)) rfl ?_) | (refine Exec.stab rfl (Stab.int rfl rfl rfl) rfl ?_))) | ((with_reducible refine Knd.pick ?_); ((refine Exec.stab rfl (Stab.pick_fd rfl (by first | (with_reducible assumption) | (with_reducible rfl) | (with_reducible exact (not_not_intro rfl)) | omega) rfl) rfl ?_))) | ((with_reducible refine Knd.indexAddr ?_); ((refine Exec.stab rfl (Stab.indexAddr rfl rfl (tysOk.get rfl) rfl (tysOk.get rfl) rfl (by omega) (by omega) (by first | rfl | assumption)) rfl ?_))))) | (with_reducible refine Tr.next ?_) | (with_reducible refine Tr.seq ?_) | (with_reducible refine Tr.region ?_) | (with_reducible refine Tr.nil ?_) | ((refine Tr.guard_y' rfl rfl rfl (by first | (with_reducible assumption) | (with_reducible rfl) | (with_reducible exact (not_not_intro rfl)) | omega) ?_); (first | ((with_reducible refine Knd.move ?_); (refine Exec.stab rfl (Stab.move rfl) rfl ?_)) | ((with_reducible refine Knd.len ?_); ((refine Exec.stab rfl (Stab.len rfl (tysOk.get rfl) rfl) rfl ?_))) | ((with_reducible refine Knd.binOp ?_); ((refine Exec.stab rfl (Stab.int rfl rfl rfl) rfl ?_))))) | (with_reducible refine Tr.skip ?_) | (with_reducible refine Tr.block ?_) | (with_reducible refine Tr.in_normal ?_) | (refine Tr.cond_t rfl (by first | (with_reducible assumption) | (with_reducible rfl) | (with_reducible exact (not_not_intro rfl)) | omega) ?_) | (refine Tr.cond_f rfl (by first | (with_reducible assumption) | (with_reducible rfl) | (with_reducible exact (not_not_intro rfl)) | omega) ?_))
    rw [← hsu]
    refine Tr.again (i + 1, (n : Int)) ⟨by simp only; omega, hasc.step hx (by omega) (fun y h1 h2 => ?_), .inr ⟨by simp only; omega, by simpa using hx⟩⟩ (by simp only; omega) (holds_sub (by repeat (first | exact SubFr.nil | refine SubFr.cons rfl ?_)) (by repeat (first | exact DropL.refl | apply DropL.skip)))
    rcases hlast with ⟨h3, h4⟩ | ⟨h3, h4⟩
    · omega
    · rw [h4] at h2; cases h2; omega
  have ei : i = l.length := by omega
  subst ei
  rw [List.take_length] at hcn ⊢
  have hmem : ∀ x ∈ l, 0 ≤ x ∧ x < need.length := fun x hx => by
    obtain ⟨q, hq⟩ := List.mem_iff_getElem?.1 hx
    have := hasc q x (List.getElem?_eq_some_iff.1 hq).1 hq
    exact ⟨this.1, this.2.1⟩
  repeat (first | ((with_reducible refine Tr.step rfl ?_); (first | ((with_reducible refine Knd.move ?_); (refine Exec.stab rfl (Stab.move rfl) rfl ?_)) | ((with_reducible refine Knd.len ?_); ((refine Exec.stab rfl (Stab.len rfl (tysOk.get rfl) rfl) rfl ?_))) | ((with_reducible refine Knd.binOp ?_); ((refine Exec.stab rfl (Stab.int rfl rfl rfl) rfl ?_))))) | (with_reducible refine Tr.next ?_) | (with_reducible refine Tr.seq ?_) | (with_reducible refine Tr.region ?_) | (with_reducible refine Tr.nil ?_) | (with_reducible refine Tr.block ?_) | (with_reducible refine Tr.exit ?_) | (with_reducible refine Tr.then_exit ?_) | ((with_reducible refine Tr.in_exit ?_ ?_); (exact rfl)) | (refine Tr.cond_f rfl (by first | (with_reducible assumption) | (with_reducible rfl) | (with_reducible exact (not_not_intro rfl)) | omega) ?_))
  refine Tr.loop (α := Nat) (fun y => ⟨65, [(47, .int .i64 (y : Int)), (46, .int .i64 (fits.length : Int)), (45, .slice A0 fits.length c0), (11, .int .i64 (cutHave fits sup l y)), (10, .int .i64 (cutNeed need l)), (1, .slice A1 sup.length c1), (3, .slice A3 l.length c3)], [], M, [] ++ F⟩)
    (fun y => y ≤ fits.length) (fun y => fits.length - y) 0 (Nat.zero_le _) (holds_sub (by repeat (first | exact SubFr.nil | refine SubFr.cons rfl ?_)) (by repeat (first | exact DropL.refl | apply DropL.skip))) (fun y hy => ?_)
  have hch := cutHave_rng (fits := fits) hv.rs l y
  by_cases hyn : y < fits.length
  · obtain ⟨frow, hfr⟩ := get_of_lt hyn
    have hfrl := hv.rows frow (List.mem_of_getElem? hfr)
    obtain ⟨hA0, fch, fat, fB, fk, rfl, hfB⟩ := hf.elem hfr
    obtain ⟨s, hs1⟩ := get_of_lt (xs := sup) (i := y) (by omega)
    obtain ⟨hA1, sat⟩ := hs.at hs1
    have hsr := hv.rs s (List.mem_of_getElem? hs1)
    have hsu := cutHave_succ fits sup l y
    rw [getD_of (d := []) hfr, getD_of (d := 0) hs1] at hsu
    repeat (first | ((with_reducible refine Tr.step rfl ?_); (first | ((with_reducible refine Knd.move ?_); (refine Exec.stab rfl (Stab.move rfl) rfl ?_)) | ((with_reducible refine Knd.assign ?_); (refine Exec.stab rfl (Stab.assign rfl) rfl ?_)) | ((with_reducible refine Knd.load ?_); ((refine Exec.stab rfl (Stab.loadM rfl (tysOk.get rfl) rfl (by assumption)) rfl ?_))) | ((with_reducible refine Knd.makeFunc ?_); (refine Exec.stab rfl (Stab.makeFunc rfl rfl) rfl ?_)) | ((with_reducible refine Knd.binOp ?_); ((refine Exec.stab rfl (Stab.int rfl rfl rfl) rfl ?_))) | ((with_reducible refine Knd.store ?_); ((refine Exec.store rfl rfl (tysOk.get rfl) rfl (by first | rfl | assumption) (by repeat (first | exact Upd.here | apply Upd.there)) (by repeat (first | exact SetL.z | apply SetL.s)) ?_))) | ((with_reducible refine Knd.alloc ?_); (first | (refine Exec.alloc (tysOk.get rfl) rfl rfl (fun b => ?_)) | (refine Exec.alloc1 (tysOk.get rfl) rfl rfl rfl (fun b => ?_)))) | ((with_reducible refine Knd.indexAddr ?_); ((refine Exec.stab rfl (Stab.indexAddr rfl rfl (tysOk.get rfl) rfl (tysOk.get rfl) rfl (by omega) (by omega) (by first | rfl | assumption)) rfl ?_))))) | (with_reducible refine Tr.next ?_) | (with_reducible refine Tr.seq ?_) | (with_reducible refine Tr.region ?_) | (with_reducible refine Tr.nil ?_) | (with_reducible refine Tr.skip ?_) | (with_reducible refine Tr.block ?_) | (refine Tr.cond_t rfl (by first | (with_reducible assumption) | (with_reducible rfl) | (with_reducible exact (not_not_intro rfl)) | omega) ?_))
    ((refine Tr.step rfl ?_))
    refine Exec.call (A := [box b 43 [.slice fB frow.length fk]]) rfl (touch_lend M b fB fk frow hfB A3 c3 l hl (fun x hx => by rw [hfrl]; exact hmem x hx)) (List.Perm.refl _) rfl ?_
    rintro _ _ _ _ ⟨rfl, rfl, rfl⟩
    cases ht : cutTouch frow l
    · rw [ht] at hsu
      simp only [Bool.false_eq_true, if_false, Int.add_zero] at hsu
      repeat (first | ((with_reducible refine Tr.step rfl ?_); (first | ((with_reducible refine Knd.move ?_); (refine Exec.stab rfl (Stab.move rfl) rfl ?_)) | ((with_reducible refine Knd.binOp ?_); ((refine Exec.stab rfl (Stab.addi rfl rfl (by omega)) rfl ?_))))) | (with_reducible refine Tr.next ?_) | (with_reducible refine Tr.region ?_) | (with_reducible refine Tr.nil ?_) | (with_reducible refine Tr.skip ?_) | (with_reducible refine Tr.in_normal ?_) | (refine Tr.cond_bf rfl (by first | (with_reducible rfl) | (with_reducible assumption) | (with_reducible exact Bool.not_true) | (with_reducible exact Bool.not_false)) ?_))
      rw [← hsu]
      refine Tr.give (r := box _ 43 _) (by repeat (first | exact Del.here | apply Del.there)) ?_
      refine Tr.again (y + 1) hyn (by omega) (holds_sub (by repeat (first | exact SubFr.nil | refine SubFr.cons rfl ?_)) (by repeat (first | exact DropL.refl | apply DropL.skip)))
    · rw [ht] at hsu
      simp only [if_true] at hsu
      repeat (first | ((with_reducible refine Tr.step rfl ?_); (first | ((with_reducible refine Knd.move ?_); (refine Exec.stab rfl (Stab.move rfl) rfl ?_)) | ((with_reducible refine Knd.assign ?_); (refine Exec.stab rfl (Stab.assign rfl) rfl ?_)) | ((with_reducible refine Knd.load ?_); ((refine Exec.stab rfl (Stab.loadM rfl (tysOk.get rfl) rfl (by assumption)) rfl ?_))) | ((with_reducible refine Knd.binOp ?_); ((refine Exec.stab rfl (Stab.addi rfl rfl (by omega)) rfl ?_))) | ((with_reducible refine Knd.indexAddr ?_); ((refine Exec.stab rfl (Stab.indexAddr rfl rfl (tysOk.get rfl) rfl (tysOk.get rfl) rfl (by omega) (by omega) (by first | rfl | assumption)) rfl ?_))))) | (with_reducible refine Tr.next ?_) | (with_reducible refine Tr.region ?_) | (with_reducible refine Tr.nil ?_) | (with_reducible refine Tr.in_normal ?_) | (refine Tr.cond_bt rfl (by first | (with_reducible rfl) | (with_reducible assumption) | (with_reducible exact Bool.not_true) | (with_reducible exact Bool.not_false)) ?_))
      rw [← hsu]
      refine Tr.give (r := box _ 43 _) (by repeat (first | exact Del.here | apply Del.there)) ?_
      refine Tr.again (y + 1) hyn (by omega) (holds_sub (by repeat (first | exact SubFr.nil | refine SubFr.cons rfl ?_)) (by repeat (first | exact DropL.refl | apply DropL.skip)))
  · have ey : y = fits.length := by omega
    subst ey
    repeat (first | ((with_reducible refine Tr.step rfl ?_); (first | ((with_reducible refine Knd.move ?_); (refine Exec.stab rfl (Stab.move rfl) rfl ?_)) | ((with_reducible refine Knd.assign ?_); (refine Exec.stab rfl (Stab.assign rfl) rfl ?_)) | ((with_reducible refine Knd.binOp ?_); ((refine Exec.stab rfl (Stab.int rfl rfl rfl) rfl ?_))))) | (with_reducible refine Tr.next ?_) | (with_reducible refine Tr.seq ?_) | (with_reducible refine Tr.region ?_) | (with_reducible refine Tr.nil ?_) | (with_reducible refine Tr.exit ?_) | (with_reducible refine Tr.ret ?_) | (with_reducible refine Tr.then_exit ?_) | ((with_reducible refine Tr.in_exit ?_ ?_); (exact rfl)) | (refine Tr.cond_f rfl (by first | (with_reducible assumption) | (with_reducible rfl) | (with_reducible exact (not_not_intro rfl)) | omega) ?_))
    (refine Tr.done (by first | exact .inl rfl | exact .inr rfl) rfl (by repeat (first | exact RVs.nil | (apply RVs.cons; (exact RV.tmp rfl)))) (by first | exact Mem.le.refl _ | assumption) (by exact ⟨[], rfl⟩) ⟨rfl, ?_⟩)
    refine ⟨.inr ⟨hv, _, rfl, ?_⟩, rfl⟩
    rw [decide_eq_true_eq, l3]
    exact ⟨fun h => ⟨hasc, h⟩, fun h => h.2⟩
end Go.Proofs.Ytmioocddmlfboaa
/-
  Matching, plain: the chapter's examples.
  Conditions: none.
-/
namespace Go.Proofs.Ytmioocddmlfboaa
open Go Bf
theorem possD (fits : List (List Bool)) (sup need : List Int) (set : Nat) : Poss fits sup need set ↔ ∀ s, s ≤ set → (1 ≤ s → s &&& set = s → lackB fits sup need s ≤ 0) := ⟨fun h s h1 h2 h3 => h s h2 h1 h3, fun h s h1 h2 h3 => h s h2 h1 h3⟩
theorem x2_no : ¬ Feas (pbOf [] [] [1]) := by
  rw [feas_poss (vld_iff.1 (by decide)), possD]
  decide
theorem x2_cut : memF (cutFin [] [] [1]) 1 = [0] := by
  have h := memF_bits (fits := []) (sup := []) (need := [1]) (vld_iff.1 (by decide))
  have e : cutOfP [] [] [1] = 1 := by
    unfold cutOfP
    show cutS _ 1 1 = 1
    rw [cutS, if_pos ((possD _ _ _ _).2 (by decide)), cutS]
  rw [e] at h
  exact h
theorem x3_no : ¬ Feas (pbOf [[true, true]] [3] [2, 2]) := by
  rw [feas_poss (vld_iff.1 (by decide)), possD]
  decide
theorem x3_cut : memF (cutFin [[true, true]] [3] [2, 2]) 2 = [0, 1] := by
  have h := memF_bits (fits := [[true, true]]) (sup := [3]) (need := [2, 2]) (vld_iff.1 (by decide))
  have e : cutOfP [[true, true]] [3] [2, 2] = 3 := by
    unfold cutOfP
    show cutS _ 2 3 = 3
    rw [cutS, if_pos ((possD _ _ _ _).2 (by decide)), cutS, if_pos ((possD _ _ _ _).2 (by decide)), cutS]
  rw [e] at h
  exact h
theorem x6_no : ¬ Feas (pbOf [[true, false, true], [false, true, true]] [1, 5] [2, 3, 3]) := by
  rw [feas_poss (vld_iff.1 (by decide)), possD]
  decide
theorem x6_cut : memF (cutFin [[true, false, true], [false, true, true]] [1, 5] [2, 3, 3]) 3 = [0] := by
  have h := memF_bits (fits := [[true, false, true], [false, true, true]]) (sup := [1, 5]) (need := [2, 3, 3]) (vld_iff.1 (by decide))
  have e : cutOfP [[true, false, true], [false, true, true]] [1, 5] [2, 3, 3] = 1 := by
    unfold cutOfP
    show cutS _ 3 7 = 1
    rw [cutS, if_neg (fun h => absurd ((possD _ _ _ _).1 h) (by decide)), cutS, if_neg (fun h => absurd ((possD _ _ _ _).1 h) (by decide)), cutS, if_pos ((possD _ _ _ _).2 (by decide)), cutS]
  rw [e] at h
  exact h
theorem x1_yes : Feas (pbOf [] [] []) := by
  rw [feas_poss (vld_iff.1 (by decide)), possD]
  decide
theorem x4_yes : Feas (pbOf [[true], [true]] [2, 2] [3]) := by
  rw [feas_poss (vld_iff.1 (by decide)), possD]
  decide
theorem x5_yes : Feas (pbOf [[true, true], [true, false]] [3, 3] [2, 2]) := by
  rw [feas_poss (vld_iff.1 (by decide)), possD]
  decide
def tbl (l : List (List Int)) (k b : Nat) : Int := (l.getD k []).getD b 0
theorem x4_flow : Bf.Flow (pbOf [[true], [true]] [2, 2] [3]) (tbl [[2, 0], [1, 1]]) fun _ => 0 :=
  ⟨⟨by decide, by decide, by decide⟩, by decide, by decide⟩
theorem x4_max {a : Nat → Nat → Int} (h : LexMax (pbOf [[true], [true]] [2, 2] [3]) a) : allocOf a 1 2 = [[2], [1]] := by
  have h1 := h.2 _ x4_flow 0 (by decide) 0 (by decide) (fun k hk => by omega) (fun b hb => by omega)
  have h2 : (sumN 2 (a 0)) = 2 := h.1.row 0 (by decide)
  have h3 : (0 : Int) + sumN 2 (fun k => a k 0) = 3 := h.1.col 0 (by decide)
  have h4 := h.1.nn 0 (by decide) 1 (by decide)
  simp only [sumN] at h2 h3
  have h5 : (2 : Int) ≤ a 0 0 := h1
  have e1 : a 0 0 = 2 := by omega
  have e2 : a 1 0 = 1 := by omega
  simp [allocOf, rowOf, List.range_succ, e1, e2]
theorem x5_flow : Bf.Flow (pbOf [[true, true], [true, false]] [3, 3] [2, 2]) (tbl [[1, 2, 0], [1, 0, 2]]) fun _ => 0 :=
  ⟨⟨by decide, by decide, by decide⟩, by decide, by decide⟩
theorem x5_max {a : Nat → Nat → Int} (h : LexMax (pbOf [[true, true], [true, false]] [3, 3] [2, 2]) a) : allocOf a 2 2 = [[1, 2], [1, 0]] := by
  have h1 := h.2 _ x5_flow 0 (by decide) 0 (by decide) (fun k hk => by omega) (fun b hb => by omega)
  have h2 : (sumN 3 (a 0)) = 3 := h.1.row 0 (by decide)
  have h3 : (0 : Int) + sumN 2 (fun k => a k 0) = 2 := h.1.col 0 (by decide)
  have h6 : (0 : Int) + sumN 2 (fun k => a k 1) = 2 := h.1.col 1 (by decide)
  have h4 := h.1.nn 0 (by decide) 2 (by decide)
  have h7 : a 1 1 = 0 := by
    by_cases e : a 1 1 = 0
    · exact e
    · exact absurd (h.1.ok 1 (by decide) 1 (by decide) e) (by decide)
  simp only [sumN] at h2 h3 h6
  have h5 : (1 : Int) ≤ a 0 0 := h1
  have e1 : a 0 0 = 1 := by omega
  have e2 : a 0 1 = 2 := by omega
  have e3 : a 1 0 = 1 := by omega
  simp [allocOf, rowOf, List.range_succ, e1, e2, e3, h7]
theorem x7_lack : IsLack (pbOf [[true]] [3] [5]) 2 := by
  have hv : Vld [[true]] [3] [5] := vld_iff.1 (by decide)
  refine ⟨⟨fun _ => true, by decide⟩, fun D => ?_⟩
  rw [lackOf_bits hv]
  have h := bitsOf_lt D 1
  have : bitsOf D 1 = 0 ∨ bitsOf D 1 = 1 := by omega
  show lackB [[true]] [3] [5] (bitsOf D 1) ≤ 2
  rcases this with e | e
  · rw [e]; decide
  · rw [e]; decide
theorem x8_check : CheckP [[true, true]] [3] [2, 1] [[2, 1]] := by
  have h2 : ∀ j, j < ([2, 1] : List Int).length → j = 0 ∨ j = 1 := fun j hj => by
    have : j < 2 := hj
    omega
  have h1 : ∀ i, i < ([3] : List Int).length → i = 0 := fun i hi => by
    have : i < 1 := hi
    omega
  refine ⟨rfl, by decide, fun i j hi hj => ?_, fun i j hi hj => ?_, fun i hi => ?_, fun j hj => ?_⟩
  · rw [h1 i hi]; rcases h2 j hj with rfl | rfl <;> decide
  · rw [h1 i hi]; rcases h2 j hj with rfl | rfl <;> decide
  · rw [h1 i hi]; decide
  · rcases h2 j hj with rfl | rfl <;> decide
theorem x9_cut : CutP [[true, true]] [3] [2, 2] [0, 1] := by
  refine ⟨fun q x hq hx => ?_, by decide⟩
  have : q = 0 ∨ q = 1 := by have : q < 2 := hq; omega
  rcases this with rfl | rfl
  · cases hx; exact ⟨by decide, by decide, fun _ h => by omega⟩
  · cases hx; exact ⟨by decide, by decide, fun y _ hy => by cases hy; decide⟩
theorem x10_cut : ¬ CutP [[true, true]] [3] [2, 2] [] := fun h => absurd h.2 (by decide)
end Go.Proofs.Ytmioocddmlfboaa
/-
  Matching: the contract of the program's Check.
  Conditions: none.
-/
namespace Go.Proofs.Ytmioocddmlfboaa
open Go Bf
attribute [local irreducible] Tr Exec Stab HasTy Go.Addr.add IntKind.wrap
set_option maxHeartbeats 8000000 in
set_option maxRecDepth 20000 in
theorem check_fn (M : Mem) (A0 A1 A2 A3 : Option Addr) (c0 c1 c2 c3 : Nat) (fits : List (List Bool)) (sup need : List Int) (am : List (List Int)) (hf : Fits2 M (.slice A0 fits.length c0) fits) (hs : Ints M (.slice A1 sup.length c1) sup) (hn : Ints M (.slice A2 need.length c2) need) (ha : Ints2 M (.slice A3 am.length c3) am) (rs : I64s sup) (rn : I64s need) :
    Fn0 Try.prog 11 [.slice A0 fits.length c0, .slice A1 sup.length c1, .slice A2 need.length c2, .slice A3 am.length c3] M (fun r M' => CheckR fits sup need am r ∧ M = M') := by
  have la := ha.len_le
  refine Fn.intro Try.func11 rfl rfl Try.ntmps11 rfl fun E F => ?_
  repeat (first | ((with_reducible refine Tr.step rfl ?_); (first | ((with_reducible refine Knd.move ?_); (refine Exec.stab rfl (Stab.move rfl) rfl ?_)) | ((with_reducible refine Knd.assign ?_); (refine Exec.stab rfl (Stab.assign rfl) rfl ?_)))) | (with_reducible refine Tr.next ?_) | (with_reducible refine Tr.seq ?_) | (with_reducible refine Tr.region ?_) | (with_reducible refine Tr.nil ?_))
  ((refine Tr.step rfl ?_)); refine Exec.call0 rfl (valid_fn M A0 A1 A2 c0 c1 c2 fits sup need hf hs hn rs rn) rfl ?_
  rintro _ _ _ ⟨rfl, rfl⟩
  cases hvv : validF fits sup need
  · repeat (first | ((with_reducible refine Tr.step rfl ?_); (first | ((with_reducible refine Knd.assign ?_); (refine Exec.stab rfl (Stab.assign rfl) rfl ?_)) | ((with_reducible refine Knd.unOp ?_); ((refine Exec.stab rfl (Stab.not rfl) rfl ?_))))) | (with_reducible refine Tr.next ?_) | (with_reducible refine Tr.seq ?_) | (with_reducible refine Tr.region ?_) | (with_reducible refine Tr.nil ?_) | (with_reducible refine Tr.ret ?_) | (with_reducible refine Tr.then_ret ?_) | (refine Tr.cond_bt rfl (by first | (with_reducible rfl) | (with_reducible assumption) | (with_reducible exact Bool.not_true) | (with_reducible exact Bool.not_false)) ?_))
    (refine Tr.done (by first | exact .inl rfl | exact .inr rfl) rfl (by repeat (first | exact RVs.nil | (apply RVs.cons; (exact RV.tmp rfl)))) (by first | exact Mem.le.refl _ | assumption) (by exact ⟨[], rfl⟩) ⟨rfl, ?_⟩)
    exact ⟨.inl ⟨hvv, rfl⟩, rfl⟩
  have hv := vld_iff.1 hvv
  have l1 := hv.ls
  have l2 := hv.ln
  have l3 := hv.lf
  by_cases hl : am.length = sup.length
  rotate_left
  · repeat (first | ((with_reducible refine Tr.step rfl ?_); (first | ((with_reducible refine Knd.move ?_); (refine Exec.stab rfl (Stab.move rfl) rfl ?_)) | ((with_reducible refine Knd.assign ?_); (refine Exec.stab rfl (Stab.assign rfl) rfl ?_)) | ((with_reducible refine Knd.len ?_); ((refine Exec.stab rfl (Stab.len rfl (tysOk.get rfl) rfl) rfl ?_))) | ((with_reducible refine Knd.binOp ?_); ((refine Exec.stab rfl (Stab.int rfl rfl rfl) rfl ?_))) | ((with_reducible refine Knd.unOp ?_); ((refine Exec.stab rfl (Stab.not rfl) rfl ?_))))) | (with_reducible refine Tr.next ?_) | (with_reducible refine Tr.seq ?_) | (with_reducible refine Tr.region ?_) | (with_reducible refine Tr.nil ?_) | (with_reducible refine Tr.skip ?_) | (with_reducible refine Tr.ret ?_) | (with_reducible refine Tr.then_ret ?_) | (refine Tr.cond_bf rfl (by first | (with_reducible rfl) | (with_reducible assumption) | (with_reducible exact Bool.not_true) | (with_reducible exact Bool.not_false)) ?_) | (refine Tr.cond_t rfl (by first | (with_reducible assumption) | (with_reducible rfl) | (with_reducible exact (not_not_intro rfl)) | omega) ?_))
    (refine Tr.done (by first | exact .inl rfl | exact .inr rfl) rfl (by repeat (first | exact RVs.nil | (apply RVs.cons; (exact RV.tmp rfl)))) (by first | exact Mem.le.refl _ | assumption) (by exact ⟨[], rfl⟩) ⟨rfl, ?_⟩)
    exact ⟨CheckR.no hv fun h => hl h.len, rfl⟩
  repeat (first | ((with_reducible refine Tr.step rfl ?_); (first | ((with_reducible refine Knd.move ?_); (refine Exec.stab rfl (Stab.move rfl) rfl ?_)) | ((with_reducible refine Knd.assign ?_); (refine Exec.stab rfl (Stab.assign rfl) rfl ?_)) | ((with_reducible refine Knd.len ?_); ((refine Exec.stab rfl (Stab.len rfl (tysOk.get rfl) rfl) rfl ?_))) | ((with_reducible refine Knd.binOp ?_); ((refine Exec.stab rfl (Stab.int rfl rfl rfl) rfl ?_))) | ((with_reducible refine Knd.unOp ?_); ((refine Exec.stab rfl (Stab.not rfl) rfl ?_))) | ((with_reducible refine Knd.makeSlice ?_); (refine Exec.make rfl rfl (tysOk.get rfl) rfl (tysOk.get rfl) rfl rfl rfl (by omega) (by omega) (by first | omega | (simp; done) | (simp; omega)) (by omega) rfl (fun b => ?_))))) | (with_reducible refine Tr.next ?_) | (with_reducible refine Tr.seq ?_) | (with_reducible refine Tr.region ?_) | (with_reducible refine Tr.nil ?_) | (with_reducible refine Tr.skip ?_) | (with_reducible refine Tr.block ?_) | (refine Tr.cond_bf rfl (by first | (with_reducible rfl) | (with_reducible assumption) | (with_reducible exact Bool.not_true) | (with_reducible exact Bool.not_false)) ?_) | (refine Tr.cond_f rfl (by first | (with_reducible assumption) | (with_reducible rfl) | (with_reducible exact (not_not_intro rfl)) | omega) ?_))
  rw [show ((need.length : Int)).toNat = need.length by omega, show List.replicate need.length (Value.int .i64 0) = intV (List.replicate need.length 0) by simp [intV]]
  generalize b = cb
  refine Tr.loop (α := Nat × List Int) (fun y => ⟨90, [(30, .int .i64 (y.1 : Int)), (29, .int .i64 (am.length : Int)), (28, .slice A3 am.length c3), (10, .slice (some ⟨cb, 0, none⟩) need.length need.length), (0, .slice A0 fits.length c0), (1, .slice A1 sup.length c1), (2, .slice A2 need.length c2)], [], M, box cb 3 (intV y.2) :: ([] ++ F)⟩)
    (fun y => y.1 ≤ am.length ∧ Upto fits sup need am y.1 0 y.2) (fun y => am.length - y.1) (0, List.replicate need.length 0) ⟨Nat.zero_le _, Upto.start _ _ _ _⟩ (holds_sub (by repeat (first | exact SubFr.nil | refine SubFr.cons rfl ?_)) (by repeat (first | exact DropL.refl | apply DropL.skip))) (fun y hy => ?_)
  obtain ⟨i, col⟩ := y
  obtain ⟨hi, hu⟩ := hy
  simp only at hi hu
  dsimp only
  have hcl := hu.cl
  have hcv : (intV col).length = need.length := by simp [hcl]
  by_cases hin : i < am.length
  rotate_left
  · have ei : i = am.length := by omega
    subst ei
    have heq := Fn.lend (M := M) (rs := [box cb 3 (intV col)]) (P := Try.prog) (f := 25) (args := [.slice (some ⟨cb, 0, none⟩) need.length need.length, .slice A2 need.length c2]) (R := fun r => ∃ b : Bool, r = .bool b ∧ (b = true ↔ col = need)) (clone_ok _ _ _ _ _ _ (equal_fn M need need A2 A2 c2 c2 hn hn)) (fun M' hm hok => by
      have hb : (box cb 3 (intV col)).ok M' := hok _ (by simp)
      have hI := Ints.ofBox hb (by omega)
      have := equal_fn M' col need (some ⟨cb, 0, none⟩) A2 col.length c2 hI (hn.mono RI.mono hm)
      rw [hcl] at this
      exact this)
    rw [hl] at hu
    have hfin := hu.fin hl
    repeat (first | ((with_reducible refine Tr.step rfl ?_); (first | ((with_reducible refine Knd.move ?_); (refine Exec.stab rfl (Stab.move rfl) rfl ?_)) | ((with_reducible refine Knd.binOp ?_); ((refine Exec.stab rfl (Stab.int rfl rfl rfl) rfl ?_))))) | (with_reducible refine Tr.next ?_) | (with_reducible refine Tr.seq ?_) | (with_reducible refine Tr.region ?_) | (with_reducible refine Tr.nil ?_) | (with_reducible refine Tr.exit ?_) | (with_reducible refine Tr.then_exit ?_) | ((with_reducible refine Tr.in_exit ?_ ?_); (exact rfl)) | (refine Tr.cond_f rfl (by first | (with_reducible assumption) | (with_reducible rfl) | (with_reducible exact (not_not_intro rfl)) | omega) ?_))
    ((refine Tr.step rfl ?_))
    refine Exec.call (A := [box cb 3 (intV col)]) rfl heq (List.Perm.refl _) rfl ?_
    rintro _ _ _ _ ⟨rfl, rfl, b, rfl, hb⟩
    repeat (first | ((with_reducible refine Tr.step rfl ?_); (((with_reducible refine Knd.assign ?_); (refine Exec.stab rfl (Stab.assign rfl) rfl ?_)))) | (with_reducible refine Tr.next ?_) | (with_reducible refine Tr.nil ?_) | (with_reducible refine Tr.ret ?_))
    (refine Tr.done (by first | exact .inl rfl | exact .inr rfl) rfl (by repeat (first | exact RVs.nil | (apply RVs.cons; (exact RV.tmp rfl)))) (by first | exact Mem.le.refl _ | assumption) (by exact ⟨[_], rfl⟩) ⟨rfl, ?_⟩)
    exact ⟨.inr ⟨hv, b, rfl, hb.trans hfin⟩, rfl⟩
  obtain ⟨r, hr⟩ := get_of_lt hin
  obtain ⟨hA3, rch, rat, rB, rk, rfl, hrI⟩ := ha.elem hr
  have hrcap := hrI.cap
  by_cases hrl : r.length = need.length
  rotate_left
  · repeat (first | ((with_reducible refine Tr.step rfl ?_); (first | ((with_reducible refine Knd.move ?_); (refine Exec.stab rfl (Stab.move rfl) rfl ?_)) | ((with_reducible refine Knd.assign ?_); (refine Exec.stab rfl (Stab.assign rfl) rfl ?_)) | ((with_reducible refine Knd.load ?_); ((refine Exec.stab rfl (Stab.loadM rfl (tysOk.get rfl) rfl (by assumption)) rfl ?_))) | ((with_reducible refine Knd.len ?_); ((refine Exec.stab rfl (Stab.len rfl (tysOk.get rfl) rfl) rfl ?_))) | ((with_reducible refine Knd.binOp ?_); ((refine Exec.stab rfl (Stab.int rfl rfl rfl) rfl ?_))) | ((with_reducible refine Knd.indexAddr ?_); ((refine Exec.stab rfl (Stab.indexAddr rfl rfl (tysOk.get rfl) rfl (tysOk.get rfl) rfl (by omega) (by omega) (by first | rfl | assumption)) rfl ?_))))) | (with_reducible refine Tr.next ?_) | (with_reducible refine Tr.seq ?_) | (with_reducible refine Tr.region ?_) | (with_reducible refine Tr.nil ?_) | (with_reducible refine Tr.skip ?_) | (with_reducible refine Tr.block ?_) | (with_reducible refine Tr.ret ?_) | (with_reducible refine Tr.then_ret ?_) | (with_reducible refine Tr.in_ret ?_) | (refine Tr.cond_t rfl (by first | (with_reducible assumption) | (with_reducible rfl) | (with_reducible exact (not_not_intro rfl)) | omega) ?_))
    (refine Tr.done (by first | exact .inl rfl | exact .inr rfl) rfl (by repeat (first | exact RVs.nil | (apply RVs.cons; (exact RV.tmp rfl)))) (by first | exact Mem.le.refl _ | assumption) (by exact ⟨[_], rfl⟩) ⟨rfl, ?_⟩)
    exact ⟨CheckR.no hv fun h => hrl (h.rows r (List.mem_of_getElem? hr)), rfl⟩
  repeat (first | ((with_reducible refine Tr.step rfl ?_); (first | ((with_reducible refine Knd.move ?_); (refine Exec.stab rfl (Stab.move rfl) rfl ?_)) | ((with_reducible refine Knd.assign ?_); (refine Exec.stab rfl (Stab.assign rfl) rfl ?_)) | ((with_reducible refine Knd.load ?_); ((refine Exec.stab rfl (Stab.loadM rfl (tysOk.get rfl) rfl (by assumption)) rfl ?_))) | ((with_reducible refine Knd.len ?_); ((refine Exec.stab rfl (Stab.len rfl (tysOk.get rfl) rfl) rfl ?_))) | ((with_reducible refine Knd.binOp ?_); ((refine Exec.stab rfl (Stab.int rfl rfl rfl) rfl ?_))) | ((with_reducible refine Knd.indexAddr ?_); ((refine Exec.stab rfl (Stab.indexAddr rfl rfl (tysOk.get rfl) rfl (tysOk.get rfl) rfl (by omega) (by omega) (by first | rfl | assumption)) rfl ?_))))) | (with_reducible refine Tr.next ?_) | (with_reducible refine Tr.seq ?_) | (with_reducible refine Tr.region ?_) | (with_reducible refine Tr.nil ?_) | (with_reducible refine Tr.skip ?_) | (with_reducible refine Tr.block ?_) | (refine Tr.cond_t rfl (by first | (with_reducible assumption) | (with_reducible rfl) | (with_reducible exact (not_not_intro rfl)) | omega) ?_) | (refine Tr.cond_f rfl (by first | (with_reducible assumption) | (with_reducible rfl) | (with_reducible exact (not_not_intro rfl)) | omega) ?_))
  refine Tr.loop (α := Nat × List Int) (fun y => ⟨90, [(42, .int .i64 (y.1 : Int)), (41, .int .i64 (r.length : Int)), (40, .slice rB r.length rk), (12, .slice rB r.length rk), (11, .int .i64 (i : Int)), (30, .int .i64 (i : Int)), (29, .int .i64 (am.length : Int)), (28, .slice A3 am.length c3), (10, .slice (some ⟨cb, 0, none⟩) need.length need.length), (0, .slice A0 fits.length c0), (1, .slice A1 sup.length c1), (2, .slice A2 need.length c2)], [], M, box cb 3 (intV y.2) :: ([] ++ F)⟩)
    (fun y => y.1 ≤ need.length ∧ Upto fits sup need am i y.1 y.2) (fun y => need.length - y.1) (0, col) ⟨Nat.zero_le _, hu⟩ (holds_sub (by repeat (first | exact SubFr.nil | refine SubFr.cons rfl ?_)) (by repeat (first | exact DropL.refl | apply DropL.skip))) (fun y hy => ?_)
  clear hu hcl hcv
  obtain ⟨j, col⟩ := y
  obtain ⟨hj, hu⟩ := hy
  simp only at hj hu
  dsimp only
  have hcl := hu.cl
  have hcv : (intV col).length = need.length := by simp [hcl]
  have hisl : i < sup.length := by omega
  obtain ⟨s, hs1⟩ := get_of_lt hisl
  obtain ⟨hA1, sat⟩ := hs.at hs1
  have hsr := hv.rs s (List.mem_of_getElem? hs1)
  have hsd : sup.getD i 0 = s := getD_of hs1
  by_cases hjn : j < need.length
  rotate_left
  · have ej : j = need.length := by omega
    subst ej
    have hrow : r.sum = sumN need.length (am2 am i) := by rw [am2_row hr, sumN_list, hrl]
    have hall : ∀ x ∈ r, 0 ≤ x ∧ x ≤ 1048576 := fun x hx => by
      obtain ⟨q, hq⟩ := List.mem_iff_getElem?.1 hx
      have hq1 := (List.getElem?_eq_some_iff.1 hq).1
      have := hu.ok i q hisl (by omega) (.inr ⟨rfl, by omega⟩)
      rw [am2_of hr hq] at this
      exact ⟨this.1, this.2.1⟩
    have hsum := sum_fn M [] rB rk r hrcap.2.1 (fun h => by
      cases rB with
      | none => exact absurd (List.eq_nil_of_length_eq_zero (hrcap.2.2.2 rfl)) h
      | some a => rfl) (Src.row hrI.row) (small_of (by omega) hall)
    have hsr2 := sum_rng (l := r) (by omega) hall
    repeat (first | ((with_reducible refine Tr.step rfl ?_); (((with_reducible refine Knd.binOp ?_); ((refine Exec.stab rfl (Stab.int rfl rfl rfl) rfl ?_))))) | (with_reducible refine Tr.next ?_) | (with_reducible refine Tr.seq ?_) | (with_reducible refine Tr.region ?_) | (with_reducible refine Tr.nil ?_) | (with_reducible refine Tr.exit ?_) | (with_reducible refine Tr.then_exit ?_) | ((with_reducible refine Tr.in_exit ?_ ?_); (exact rfl)) | (refine Tr.cond_f rfl (by first | (with_reducible assumption) | (with_reducible rfl) | (with_reducible exact (not_not_intro rfl)) | omega) ?_))
    (((apply Tr.draw); (kernel_rfl)); (refine TrA.take 0 (by kernel_rfl) rfl (by kernel_rfl) (by first | exact fun _ _ _ h => h | exact fun _ _ _ h => nomatch h.1) (by exact fun _ h => h) rfl (by first | exact Stab.move rfl) rfl rfl ?_); (refine TrA.take 2 (by kernel_rfl) rfl (by kernel_rfl) (by first | exact fun _ _ _ h => h | exact fun _ _ _ h => nomatch h.1) (by exact fun _ h => h) rfl (by first | exact Stab.move rfl) rfl rfl ?_); (refine TrA.take 3 (by kernel_rfl) rfl (by kernel_rfl) (by first | exact fun _ _ _ h => h | exact fun _ _ _ h => nomatch h.1) (by exact fun _ h => h) rfl (by first | exact Stab.move rfl) rfl rfl ?_); (refine TrA.take 4 (by kernel_rfl) rfl (by kernel_rfl) (by first | exact fun _ _ _ h => h | exact fun _ _ _ h => nomatch h.1) (by exact fun _ h => h) rfl (by exact Stab.indexAddr rfl rfl (tysOk.get rfl) rfl (tysOk.get rfl) rfl (by omega) (by omega) (by first | rfl | assumption)) rfl rfl ?_); (refine TrA.take 5 (by kernel_rfl) rfl (by kernel_rfl) (by first | exact fun _ _ _ h => h | exact fun _ _ _ h => nomatch h.1) (by exact fun _ h => h) rfl (by exact Stab.loadM rfl (tysOk.get rfl) rfl (by assumption)) rfl rfl ?_); (refine TrA.eff 1 rfl (by kernel_rfl) (by first | exact .inl rfl | exact .inr ⟨_, _, _, rfl, rfl, rfl⟩) ?_))
    refine Exec.call (A := []) rfl hsum (List.Perm.refl _) rfl ?_
    rintro _ _ _ _ ⟨rfl, rfl, rfl⟩
    refine ⟨Mem.le.refl _, (by exact fun _ h => h), ?_⟩
    ((refine TrA.take 6 (by kernel_rfl) rfl (by kernel_rfl) (by first | exact fun _ _ _ h => h | exact fun _ _ _ h => nomatch h.1) (by exact fun _ h => h) rfl (by exact Stab.int rfl rfl rfl) rfl rfl ?_); (refine TrA.done (by kernel_rfl) ?_))
    by_cases hso : s < r.sum
    · repeat (first | ((with_reducible refine Tr.step rfl ?_); (((with_reducible refine Knd.assign ?_); (refine Exec.stab rfl (Stab.assign rfl) rfl ?_)))) | (with_reducible refine Tr.next ?_) | (with_reducible refine Tr.seq ?_) | (with_reducible refine Tr.region ?_) | (with_reducible refine Tr.nil ?_) | (with_reducible refine Tr.ret ?_) | (with_reducible refine Tr.then_ret ?_) | (with_reducible refine Tr.in_ret ?_) | (refine Tr.cond_t rfl (by first | (with_reducible assumption) | (with_reducible rfl) | (with_reducible exact (not_not_intro rfl)) | omega) ?_))
      (refine Tr.done (by first | exact .inl rfl | exact .inr rfl) rfl (by repeat (first | exact RVs.nil | (apply RVs.cons; (exact RV.tmp rfl)))) (by first | exact Mem.le.refl _ | assumption) (by exact ⟨[_], rfl⟩) ⟨rfl, ?_⟩)
      exact ⟨CheckR.no hv fun h => by have := h.row i hisl; omega, rfl⟩
    · repeat (first | ((with_reducible refine Tr.step rfl ?_); (first | ((with_reducible refine Knd.move ?_); (refine Exec.stab rfl (Stab.move rfl) rfl ?_)) | ((with_reducible refine Knd.binOp ?_); ((refine Exec.stab rfl (Stab.addi rfl rfl (by omega)) rfl ?_))))) | (with_reducible refine Tr.next ?_) | (with_reducible refine Tr.region ?_) | (with_reducible refine Tr.nil ?_) | (with_reducible refine Tr.skip ?_) | (with_reducible refine Tr.in_normal ?_) | (refine Tr.cond_f rfl (by first | (with_reducible assumption) | (with_reducible rfl) | (with_reducible exact (not_not_intro rfl)) | omega) ?_))
      refine Tr.again (i + 1, col) ⟨by simp only; omega, hu.row hr hrl (by omega)⟩ (by simp only; omega) (holds_sub (by repeat (first | exact SubFr.nil | refine SubFr.cons rfl ?_)) (by repeat (first | exact DropL.refl | apply DropL.skip)))
  obtain ⟨x, hx⟩ := get_of_lt (xs := r) (i := j) (by omega)
  obtain ⟨hrB, xat⟩ := hrI.at hx
  have hxa := am2_of hr hx
  obtain ⟨frow, hfr⟩ := get_of_lt (xs := fits) (i := i) (by omega)
  have hfrl := hv.rows frow (List.mem_of_getElem? hfr)
  obtain ⟨hA0, fch, fat, fB, fk, rfl, hfB⟩ := hf.elem hfr
  obtain ⟨fx, hfx⟩ := get_of_lt (xs := frow) (i := j) (by omega)
  obtain ⟨hfA, fxat⟩ := hfB.at hfx
  have hfd : (fits.getD i []).getD j false = fx := by rw [getD_of (d := []) hfr, getD_of (d := false) hfx]
  obtain ⟨cv, hcv1⟩ := get_of_lt (xs := col) (i := j) (by omega)
  have hcv2 : nthL (intV col) j = some (.int .i64 cv) := by rw [nthL_eq]; exact intV_get hcv1
  have hcr := hu.col_rng (by omega) (by omega) hjn (Nat.le_refl _)
  rw [getD_of hcv1] at hcr
  by_cases hx0 : x < 0
  · repeat (first | ((with_reducible refine Tr.step rfl ?_); (first | ((with_reducible refine Knd.move ?_); (refine Exec.stab rfl (Stab.move rfl) rfl ?_)) | ((with_reducible refine Knd.assign ?_); (refine Exec.stab rfl (Stab.assign rfl) rfl ?_)) | ((with_reducible refine Knd.load ?_); ((refine Exec.stab rfl (Stab.loadM rfl (tysOk.get rfl) rfl (by assumption)) rfl ?_))) | ((with_reducible refine Knd.binOp ?_); ((refine Exec.stab rfl (Stab.int rfl rfl rfl) rfl ?_))) | ((with_reducible refine Knd.pick ?_); (first | (refine Exec.stab rfl (Stab.pick_t rfl (by first | (with_reducible rfl) | (with_reducible assumption) | (with_reducible exact Bool.not_true) | (with_reducible exact Bool.not_false)) rfl) rfl ?_) | (refine Exec.stab rfl (Stab.pick_td rfl (by first | (with_reducible assumption) | (with_reducible rfl) | (with_reducible exact (not_not_intro rfl)) | omega) rfl) rfl ?_))) | ((with_reducible refine Knd.indexAddr ?_); ((refine Exec.stab rfl (Stab.indexAddr rfl rfl (tysOk.get rfl) rfl (tysOk.get rfl) rfl (by omega) (by omega) (by first | rfl | assumption)) rfl ?_))))) | (with_reducible refine Tr.next ?_) | (with_reducible refine Tr.seq ?_) | (with_reducible refine Tr.region ?_) | (with_reducible refine Tr.nil ?_) | (refine Tr.guard_s0 rfl rfl rfl (by first | (with_reducible rfl) | (with_reducible assumption) | (with_reducible exact Bool.not_true) | (with_reducible exact Bool.not_false)) rfl rfl ?_) | (refine Tr.guard_n' rfl rfl rfl (by first | (with_reducible assumption) | (with_reducible rfl) | (with_reducible exact (not_not_intro rfl)) | omega) rfl rfl ?_) | (refine Tr.guard_u rfl rfl rfl rfl rfl ?_) | (with_reducible refine Tr.skip ?_) | (with_reducible refine Tr.block ?_) | (with_reducible refine Tr.ret ?_) | (with_reducible refine Tr.then_ret ?_) | (with_reducible refine Tr.in_ret ?_) | (refine Tr.cond_bt rfl (by first | (with_reducible rfl) | (with_reducible assumption) | (with_reducible exact Bool.not_true) | (with_reducible exact Bool.not_false)) ?_) | (refine Tr.cond_t rfl (by first | (with_reducible assumption) | (with_reducible rfl) | (with_reducible exact (not_not_intro rfl)) | omega) ?_))
    (refine Tr.done (by first | exact .inl rfl | exact .inr rfl) rfl (by repeat (first | exact RVs.nil | (apply RVs.cons; (exact RV.tmp rfl)))) (by first | exact Mem.le.refl _ | assumption) (by exact ⟨[_], rfl⟩) ⟨rfl, ?_⟩)
    exact ⟨CheckR.no hv (CheckP.bad hisl hjn (.inl (by omega))), rfl⟩
  by_cases hxs : s < x
  · repeat (first | ((with_reducible refine Tr.step rfl ?_); (first | ((with_reducible refine Knd.move ?_); (refine Exec.stab rfl (Stab.move rfl) rfl ?_)) | ((with_reducible refine Knd.assign ?_); (refine Exec.stab rfl (Stab.assign rfl) rfl ?_)) | ((with_reducible refine Knd.load ?_); ((refine Exec.stab rfl (Stab.loadM rfl (tysOk.get rfl) rfl (by assumption)) rfl ?_))) | ((with_reducible refine Knd.binOp ?_); ((refine Exec.stab rfl (Stab.int rfl rfl rfl) rfl ?_))) | ((with_reducible refine Knd.pick ?_); (first | (refine Exec.stab rfl (Stab.pick_td rfl (by first | (with_reducible assumption) | (with_reducible rfl) | (with_reducible exact (not_not_intro rfl)) | omega) rfl) rfl ?_) | (refine Exec.stab rfl (Stab.pick_fd rfl (by first | (with_reducible assumption) | (with_reducible rfl) | (with_reducible exact (not_not_intro rfl)) | omega) rfl) rfl ?_))) | ((with_reducible refine Knd.indexAddr ?_); ((refine Exec.stab rfl (Stab.indexAddr rfl rfl (tysOk.get rfl) rfl (tysOk.get rfl) rfl (by omega) (by omega) (by first | rfl | assumption)) rfl ?_))))) | (with_reducible refine Tr.next ?_) | (with_reducible refine Tr.seq ?_) | (with_reducible refine Tr.region ?_) | (with_reducible refine Tr.nil ?_) | ((refine Tr.guard_y' rfl rfl rfl (by first | (with_reducible assumption) | (with_reducible rfl) | (with_reducible exact (not_not_intro rfl)) | omega) ?_); (first | ((with_reducible refine Knd.move ?_); (refine Exec.stab rfl (Stab.move rfl) rfl ?_)) | ((with_reducible refine Knd.load ?_); ((refine Exec.stab rfl (Stab.loadM rfl (tysOk.get rfl) rfl (by assumption)) rfl ?_))) | ((with_reducible refine Knd.binOp ?_); ((refine Exec.stab rfl (Stab.int rfl rfl rfl) rfl ?_))) | ((with_reducible refine Knd.indexAddr ?_); ((refine Exec.stab rfl (Stab.indexAddr rfl rfl (tysOk.get rfl) rfl (tysOk.get rfl) rfl (by omega) (by omega) (by first | rfl | assumption)) rfl ?_))))) | (refine Tr.guard_n' rfl rfl rfl (by first | (with_reducible assumption) | (with_reducible rfl) | (with_reducible exact (not_not_intro rfl)) | omega) rfl rfl ?_) | (refine Tr.guard_u rfl rfl rfl rfl rfl ?_) | (with_reducible refine Tr.skip ?_) | (with_reducible refine Tr.block ?_) | (with_reducible refine Tr.ret ?_) | (with_reducible refine Tr.then_ret ?_) | (with_reducible refine Tr.in_ret ?_) | (refine Tr.cond_bt rfl (by first | (with_reducible rfl) | (with_reducible assumption) | (with_reducible exact Bool.not_true) | (with_reducible exact Bool.not_false)) ?_) | (refine Tr.cond_t rfl (by first | (with_reducible assumption) | (with_reducible rfl) | (with_reducible exact (not_not_intro rfl)) | omega) ?_))
    (refine Tr.done (by first | exact .inl rfl | exact .inr rfl) rfl (by repeat (first | exact RVs.nil | (apply RVs.cons; (exact RV.tmp rfl)))) (by first | exact Mem.le.refl _ | assumption) (by exact ⟨[_], rfl⟩) ⟨rfl, ?_⟩)
    exact ⟨CheckR.no hv (CheckP.bad hisl hjn (.inr (.inl (by omega)))), rfl⟩
  have hst := hu.step (j := j) hjn (by rw [hxa]; omega)
  rw [getD_of hcv1, hxa] at hst
  by_cases hxp : 0 < x
  · cases fx
    · repeat (first | ((with_reducible refine Tr.step rfl ?_); (first | ((with_reducible refine Knd.move ?_); (refine Exec.stab rfl (Stab.move rfl) rfl ?_)) | ((with_reducible refine Knd.assign ?_); (refine Exec.stab rfl (Stab.assign rfl) rfl ?_)) | ((with_reducible refine Knd.load ?_); ((refine Exec.stab rfl (Stab.loadM rfl (tysOk.get rfl) rfl (by assumption)) rfl ?_))) | ((with_reducible refine Knd.binOp ?_); ((refine Exec.stab rfl (Stab.int rfl rfl rfl) rfl ?_))) | ((with_reducible refine Knd.pick ?_); ((refine Exec.stab rfl (Stab.pick_fd rfl (by first | (with_reducible assumption) | (with_reducible rfl) | (with_reducible exact (not_not_intro rfl)) | omega) rfl) rfl ?_))) | ((with_reducible refine Knd.indexAddr ?_); ((refine Exec.stab rfl (Stab.indexAddr rfl rfl (tysOk.get rfl) rfl (tysOk.get rfl) rfl (by omega) (by omega) (by first | rfl | assumption)) rfl ?_))))) | (with_reducible refine Tr.next ?_) | (with_reducible refine Tr.seq ?_) | (with_reducible refine Tr.region ?_) | (with_reducible refine Tr.nil ?_) | ((refine Tr.guard_y rfl rfl rfl (by first | (with_reducible assumption) | (with_reducible rfl) | (with_reducible exact (not_not_intro rfl)) | omega) ?_); (first | ((with_reducible refine Knd.move ?_); (refine Exec.stab rfl (Stab.move rfl) rfl ?_)) | ((with_reducible refine Knd.load ?_); ((refine Exec.stab rfl (Stab.loadM rfl (tysOk.get rfl) rfl (by assumption)) rfl ?_))) | ((with_reducible refine Knd.unOp ?_); ((refine Exec.stab rfl (Stab.not rfl) rfl ?_))) | ((with_reducible refine Knd.indexAddr ?_); ((refine Exec.stab rfl (Stab.indexAddr rfl rfl (tysOk.get rfl) rfl (tysOk.get rfl) rfl (by omega) (by omega) (by first | rfl | assumption)) rfl ?_))))) | ((refine Tr.guard_y' rfl rfl rfl (by first | (with_reducible assumption) | (with_reducible rfl) | (with_reducible exact (not_not_intro rfl)) | omega) ?_); (first | ((with_reducible refine Knd.move ?_); (refine Exec.stab rfl (Stab.move rfl) rfl ?_)) | ((with_reducible refine Knd.load ?_); ((refine Exec.stab rfl (Stab.loadM rfl (tysOk.get rfl) rfl (by assumption)) rfl ?_))) | ((with_reducible refine Knd.binOp ?_); ((refine Exec.stab rfl (Stab.int rfl rfl rfl) rfl ?_))) | ((with_reducible refine Knd.pick ?_); ((refine Exec.stab rfl (Stab.pick_td rfl (by first | (with_reducible assumption) | (with_reducible rfl) | (with_reducible exact (not_not_intro rfl)) | omega) rfl) rfl ?_))) | ((with_reducible refine Knd.indexAddr ?_); ((refine Exec.stab rfl (Stab.indexAddr rfl rfl (tysOk.get rfl) rfl (tysOk.get rfl) rfl (by omega) (by omega) (by first | rfl | assumption)) rfl ?_))))) | (with_reducible refine Tr.skip ?_) | (with_reducible refine Tr.block ?_) | (with_reducible refine Tr.ret ?_) | (with_reducible refine Tr.then_ret ?_) | (with_reducible refine Tr.in_ret ?_) | (refine Tr.cond_bt rfl (by first | (with_reducible rfl) | (with_reducible assumption) | (with_reducible exact Bool.not_true) | (with_reducible exact Bool.not_false)) ?_) | (refine Tr.cond_t rfl (by first | (with_reducible assumption) | (with_reducible rfl) | (with_reducible exact (not_not_intro rfl)) | omega) ?_))
      (refine Tr.done (by first | exact .inl rfl | exact .inr rfl) rfl (by repeat (first | exact RVs.nil | (apply RVs.cons; (exact RV.tmp rfl)))) (by first | exact Mem.le.refl _ | assumption) (by exact ⟨[_], rfl⟩) ⟨rfl, ?_⟩)
      exact ⟨CheckR.no hv (CheckP.bad hisl hjn (.inr (.inr ⟨by omega, hfd⟩))), rfl⟩
    · repeat (first | ((with_reducible refine Tr.step rfl ?_); (first | ((with_reducible refine Knd.move ?_); (refine Exec.stab rfl (Stab.move rfl) rfl ?_)) | ((with_reducible refine Knd.assign ?_); (refine Exec.stab rfl (Stab.assign rfl) rfl ?_)) | ((with_reducible refine Knd.load ?_); (first | (refine Exec.stab rfl (Stab.load rfl (tysOk.get rfl) rfl (by repeat (first | exact Has.here | apply Has.there)) (by assumption)) rfl ?_) | (refine Exec.stab rfl (Stab.loadM rfl (tysOk.get rfl) rfl (by assumption)) rfl ?_))) | ((with_reducible refine Knd.binOp ?_); (first | (refine Exec.stab rfl (Stab.addi rfl rfl (by omega)) rfl ?_) | (refine Exec.stab rfl (Stab.int rfl rfl rfl) rfl ?_))) | ((with_reducible refine Knd.pick ?_); ((refine Exec.stab rfl (Stab.pick_fd rfl (by first | (with_reducible assumption) | (with_reducible rfl) | (with_reducible exact (not_not_intro rfl)) | omega) rfl) rfl ?_))) | ((with_reducible refine Knd.store ?_); ((refine Exec.storeS rfl rfl (tysOk.get rfl) rfl (by first | rfl | assumption) (by repeat (first | exact Upd.here | apply Upd.there)) (by omega) ?_))) | ((with_reducible refine Knd.indexAddr ?_); (first | (refine Exec.stab rfl (Stab.indexB0 rfl rfl (tysOk.get rfl) rfl (tysOk.get rfl) rfl (by omega) (by omega)) rfl ?_) | (refine Exec.stab rfl (Stab.indexAddr rfl rfl (tysOk.get rfl) rfl (tysOk.get rfl) rfl (by omega) (by omega) (by first | rfl | assumption)) rfl ?_))))) | (with_reducible refine Tr.next ?_) | (with_reducible refine Tr.seq ?_) | (with_reducible refine Tr.region ?_) | (with_reducible refine Tr.nil ?_) | ((refine Tr.guard_y rfl rfl rfl (by first | (with_reducible assumption) | (with_reducible rfl) | (with_reducible exact (not_not_intro rfl)) | omega) ?_); (first | ((with_reducible refine Knd.move ?_); (refine Exec.stab rfl (Stab.move rfl) rfl ?_)) | ((with_reducible refine Knd.load ?_); ((refine Exec.stab rfl (Stab.loadM rfl (tysOk.get rfl) rfl (by assumption)) rfl ?_))) | ((with_reducible refine Knd.unOp ?_); ((refine Exec.stab rfl (Stab.not rfl) rfl ?_))) | ((with_reducible refine Knd.indexAddr ?_); ((refine Exec.stab rfl (Stab.indexAddr rfl rfl (tysOk.get rfl) rfl (tysOk.get rfl) rfl (by omega) (by omega) (by first | rfl | assumption)) rfl ?_))))) | ((refine Tr.guard_y' rfl rfl rfl (by first | (with_reducible assumption) | (with_reducible rfl) | (with_reducible exact (not_not_intro rfl)) | omega) ?_); (first | ((with_reducible refine Knd.move ?_); (refine Exec.stab rfl (Stab.move rfl) rfl ?_)) | ((with_reducible refine Knd.load ?_); ((refine Exec.stab rfl (Stab.loadM rfl (tysOk.get rfl) rfl (by assumption)) rfl ?_))) | ((with_reducible refine Knd.binOp ?_); ((refine Exec.stab rfl (Stab.int rfl rfl rfl) rfl ?_))) | ((with_reducible refine Knd.pick ?_); ((refine Exec.stab rfl (Stab.pick_td rfl (by first | (with_reducible assumption) | (with_reducible rfl) | (with_reducible exact (not_not_intro rfl)) | omega) rfl) rfl ?_))) | ((with_reducible refine Knd.indexAddr ?_); ((refine Exec.stab rfl (Stab.indexAddr rfl rfl (tysOk.get rfl) rfl (tysOk.get rfl) rfl (by omega) (by omega) (by first | rfl | assumption)) rfl ?_))))) | (with_reducible refine Tr.skip ?_) | (with_reducible refine Tr.block ?_) | (with_reducible refine Tr.in_normal ?_) | (refine Tr.cond_bf rfl (by first | (with_reducible rfl) | (with_reducible assumption) | (with_reducible exact Bool.not_true) | (with_reducible exact Bool.not_false)) ?_) | (refine Tr.cond_t rfl (by first | (with_reducible assumption) | (with_reducible rfl) | (with_reducible exact (not_not_intro rfl)) | omega) ?_))
      rw [intV_set]
      refine Tr.again (j + 1, col.set j (cv + x)) ⟨by simp only; omega, hst fun _ => hfd⟩ (by simp only; omega) (holds_sub (by repeat (first | exact SubFr.nil | refine SubFr.cons rfl ?_)) (by repeat (first | exact DropL.refl | apply DropL.skip)))
  · repeat (first | ((with_reducible refine Tr.step rfl ?_); (first | ((with_reducible refine Knd.move ?_); (refine Exec.stab rfl (Stab.move rfl) rfl ?_)) | ((with_reducible refine Knd.assign ?_); (refine Exec.stab rfl (Stab.assign rfl) rfl ?_)) | ((with_reducible refine Knd.load ?_); (first | (refine Exec.stab rfl (Stab.load rfl (tysOk.get rfl) rfl (by repeat (first | exact Has.here | apply Has.there)) (by assumption)) rfl ?_) | (refine Exec.stab rfl (Stab.loadM rfl (tysOk.get rfl) rfl (by assumption)) rfl ?_))) | ((with_reducible refine Knd.binOp ?_); (first | (refine Exec.stab rfl (Stab.addi rfl rfl (by omega)) rfl ?_) | (refine Exec.stab rfl (Stab.int rfl rfl rfl) rfl ?_))) | ((with_reducible refine Knd.pick ?_); ((refine Exec.stab rfl (Stab.pick_fd rfl (by first | (with_reducible assumption) | (with_reducible rfl) | (with_reducible exact (not_not_intro rfl)) | omega) rfl) rfl ?_))) | ((with_reducible refine Knd.store ?_); ((refine Exec.storeS rfl rfl (tysOk.get rfl) rfl (by first | rfl | assumption) (by repeat (first | exact Upd.here | apply Upd.there)) (by omega) ?_))) | ((with_reducible refine Knd.indexAddr ?_); (first | (refine Exec.stab rfl (Stab.indexB0 rfl rfl (tysOk.get rfl) rfl (tysOk.get rfl) rfl (by omega) (by omega)) rfl ?_) | (refine Exec.stab rfl (Stab.indexAddr rfl rfl (tysOk.get rfl) rfl (tysOk.get rfl) rfl (by omega) (by omega) (by first | rfl | assumption)) rfl ?_))))) | (with_reducible refine Tr.next ?_) | (with_reducible refine Tr.seq ?_) | (with_reducible refine Tr.region ?_) | (with_reducible refine Tr.nil ?_) | ((refine Tr.guard_y' rfl rfl rfl (by first | (with_reducible assumption) | (with_reducible rfl) | (with_reducible exact (not_not_intro rfl)) | omega) ?_); (first | ((with_reducible refine Knd.move ?_); (refine Exec.stab rfl (Stab.move rfl) rfl ?_)) | ((with_reducible refine Knd.load ?_); ((refine Exec.stab rfl (Stab.loadM rfl (tysOk.get rfl) rfl (by assumption)) rfl ?_))) | ((with_reducible refine Knd.binOp ?_); ((refine Exec.stab rfl (Stab.int rfl rfl rfl) rfl ?_))) | ((with_reducible refine Knd.pick ?_); ((refine Exec.stab rfl (Stab.pick_fd rfl (by first | (with_reducible assumption) | (with_reducible rfl) | (with_reducible exact (not_not_intro rfl)) | omega) rfl) rfl ?_))) | ((with_reducible refine Knd.indexAddr ?_); ((refine Exec.stab rfl (Stab.indexAddr rfl rfl (tysOk.get rfl) rfl (tysOk.get rfl) rfl (by omega) (by omega) (by first | rfl | assumption)) rfl ?_))))) | (refine Tr.guard_n rfl rfl rfl (by first | (with_reducible assumption) | (with_reducible rfl) | (with_reducible exact (not_not_intro rfl)) | omega) rfl rfl ?_) | (with_reducible refine Tr.skip ?_) | (with_reducible refine Tr.block ?_) | (with_reducible refine Tr.in_normal ?_) | (refine Tr.cond_bf rfl (by first | (with_reducible rfl) | (with_reducible assumption) | (with_reducible exact Bool.not_true) | (with_reducible exact Bool.not_false)) ?_) | (refine Tr.cond_t rfl (by first | (with_reducible assumption) | (with_reducible rfl) | (with_reducible exact (not_not_intro rfl)) | omega) ?_))
    rw [intV_set]
    refine Tr.again (j + 1, col.set j (cv + x)) ⟨by simp only; omega, hst fun h => by omega⟩ (by simp only; omega) (holds_sub (by repeat (first | exact SubFr.nil | refine SubFr.cons rfl ?_)) (by repeat (first | exact DropL.refl | apply DropL.skip)))
end Go.Proofs.Ytmioocddmlfboaa
/-
  Matching: the contract of sane.
  Conditions: none.
-/
namespace Go.Proofs.Ytmioocddmlfboaa
open Go Bf
attribute [local irreducible] Tr Exec Stab HasTy Go.Addr.add IntKind.wrap
theorem FlowR.yes {fits : List (List Bool)} {sup need : List Int} {r : Value} {M' : Mem} (h : FlowR fits sup need r M') (hv : validF fits sup need = true) (hf : Feas (pbOf fits sup need)) :
    ∃ a, LexMax (pbOf fits sup need) a ∧ ∃ A c, r = .tuple #[.slice A (allocOf a need.length sup.length).length c, .bool true, .slice none 0 0, .int .i64 0] ∧ Ints2 M' (.slice A (allocOf a need.length sup.length).length c) (allocOf a need.length sup.length) := by
  rcases h with ⟨h, -⟩ | ⟨-, h, -⟩ | ⟨-, h⟩
  · rw [hv] at h; cases h
  · exact absurd hf h
  · exact h
theorem FlowR.no {fits : List (List Bool)} {sup need : List Int} {r : Value} {M' : Mem} (h : FlowR fits sup need r M') (hv : validF fits sup need = true) (hf : ¬ Feas (pbOf fits sup need)) {l : List Int} (hl : memF (cutFin fits sup need) need.length = l) :
    ∃ B k, r = .tuple #[.slice none 0 0, .bool false, .slice B l.length k, .int .i64 0] ∧ Ints M' (.slice B l.length k) l := by
  subst hl
  rcases h with ⟨h, -⟩ | ⟨-, -, h⟩ | ⟨-, a, h, -⟩
  · rw [hv] at h; cases h
  · exact h
  · exact absurd ⟨a, h.1⟩ hf
theorem CheckR.yes {fits : List (List Bool)} {sup need : List Int} {am : List (List Int)} {r : Value} (h : CheckR fits sup need am r) (hv : validF fits sup need = true) (hc : CheckP fits sup need am) : r = .tuple #[.bool true, .int .i64 0] := by
  rcases h with ⟨h, -⟩ | ⟨-, b, rfl, hb⟩
  · rw [hv] at h; cases h
  · rw [hb.2 hc]
theorem CheckR.bad {fits : List (List Bool)} {sup need : List Int} {am : List (List Int)} {r : Value} (h : CheckR fits sup need am r) (hv : validF fits sup need = false) : r = .tuple #[.bool false, .int .i64 300] := by
  rcases h with ⟨-, rfl⟩ | ⟨h, -⟩
  · rfl
  · rw [vld_iff.2 h] at hv; cases hv
theorem CutR.yes {fits : List (List Bool)} {sup need l : List Int} {r : Value} (h : CutR fits sup need l r) (hv : validF fits sup need = true) (hc : CutP fits sup need l) : r = .tuple #[.bool true, .int .i64 0] := by
  rcases h with ⟨h, -⟩ | ⟨-, b, rfl, hb⟩
  · rw [hv] at h; cases h
  · rw [hb.2 hc]
theorem CutR.not {fits : List (List Bool)} {sup need l : List Int} {r : Value} (h : CutR fits sup need l r) (hv : validF fits sup need = true) (hc : ¬ CutP fits sup need l) : r = .tuple #[.bool false, .int .i64 0] := by
  rcases h with ⟨h, -⟩ | ⟨-, b, rfl, hb⟩
  · rw [hv] at h; cases h
  · cases b
    · rfl
    · exact absurd (hb.1 rfl) hc
theorem ofI {M : Mem} {b t : Nat} {l : List Int} (h : (box b t (intV l)).ok M) (hl : l.length ≤ 100) : Ints M (.slice (some ⟨b, 0, none⟩) l.length l.length) l := Ints.ofBox h (by omega)
theorem RBo.elems (M : Mem) (l : List Bool) : Elems 1 RBo M (boV l) l := by
  refine ⟨by simp, fun i x hx => ?_⟩
  show _ = _
  rw [Nat.mul_one, List.take_one, List.head?_drop, boV_get hx]
  rfl
theorem ofB {M : Mem} {b t : Nat} {l : List Bool} (h : (box b t (boV l)).ok M) (hl : l.length ≤ 100) : Bools M (.slice (some ⟨b, 0, none⟩) l.length l.length) l := SlOf.ofBox h (by intro u hu; obtain ⟨x, _, rfl⟩ := List.mem_map.1 hu; rfl) (by omega) (RBo.elems M l)
theorem ofF1 {M : Mem} {b t : Nat} {A : Option Addr} {c : Nat} {x : List Bool} (h : (box b t [.slice A x.length c]).ok M) (hx : Bools M (.slice A x.length c) x) : Fits2 M (.slice (some ⟨b, 0, none⟩) [x].length [x].length) [x] :=
  SlOf.ofBox h (by intro u hu; simp at hu; subst hu; rfl) (by simp) (Elems.one rfl ⟨A, c, rfl, hx⟩)
theorem ofF2 {M : Mem} {b t : Nat} {A B : Option Addr} {c d : Nat} {x y : List Bool} (h : (box b t [.slice A x.length c, .slice B y.length d]).ok M) (hx : Bools M (.slice A x.length c) x) (hy : Bools M (.slice B y.length d) y) : Fits2 M (.slice (some ⟨b, 0, none⟩) [x, y].length [x, y].length) [x, y] :=
  SlOf.ofBox h (by intro u hu; simp at hu; rcases hu with rfl | rfl <;> rfl) (by simp) ((Elems.one (cs := [.slice A x.length c]) rfl ⟨A, c, rfl, hx⟩).append (Elems.one (cs := [.slice B y.length d]) rfl ⟨B, d, rfl, hy⟩))
theorem ofA1 {M : Mem} {b t : Nat} {A : Option Addr} {c : Nat} {x : List Int} (h : (box b t [.slice A x.length c]).ok M) (hx : Ints M (.slice A x.length c) x) : Ints2 M (.slice (some ⟨b, 0, none⟩) [x].length [x].length) [x] :=
  SlOf.ofBox h (by intro u hu; simp at hu; subst hu; rfl) (by simp) (Elems.one rfl ⟨A, c, rfl, hx⟩)
theorem ofA2 {M : Mem} {b t : Nat} {A B : Option Addr} {c d : Nat} {x y : List Int} (h : (box b t [.slice A x.length c, .slice B y.length d]).ok M) (hx : Ints M (.slice A x.length c) x) (hy : Ints M (.slice B y.length d) y) : Ints2 M (.slice (some ⟨b, 0, none⟩) [x, y].length [x, y].length) [x, y] :=
  SlOf.ofBox h (by intro u hu; simp at hu; rcases hu with rfl | rfl <;> rfl) (by simp) ((Elems.one (cs := [.slice A x.length c]) rfl ⟨A, c, rfl, hx⟩).append (Elems.one (cs := [.slice B y.length d]) rfl ⟨B, d, rfl, hy⟩))
set_option maxHeartbeats 16000000 in
set_option maxRecDepth 20000 in
theorem sane_fn (M0 : Mem) : Fn0 Try.prog 9 [] M0 (fun r _ => r = .bool true) := by
  have r64 : ∀ l : List Int, (l.all fun x => decide (-9223372036854775808 ≤ x) && decide (x ≤ 9223372036854775807)) = true → I64s l := fun l h x hx => by
    have := List.all_eq_true.1 h x hx
    simpa using this
  refine Fn.intro Try.func9 rfl rfl Try.ntmps9 rfl fun E F => ?_
  refine Tr.seq ?_
  refine Tr.cut (α := Unit) (fun _ => ⟨232, [], [], M0, F⟩) (fun _ => True) ?_ (fun _ _ => ?_)
  · repeat (first | ((with_reducible refine Tr.step rfl ?_); (((with_reducible refine Knd.assign ?_); (refine Exec.stab rfl (Stab.assign rfl) rfl ?_)))) | (with_reducible refine Tr.region ?_) | (with_reducible refine Tr.nil ?_))
    refine Tr.land () trivial (holds_sub (by repeat (first | exact SubFr.nil | refine SubFr.cons rfl ?_)) (by repeat (first | exact DropL.refl | apply DropL.skip)))
  first | (refine Tr.seq ?_) | (refine Tr.next ?_; refine Tr.seq ?_)
  refine Tr.cut (α := Mem × Nat) (fun y => ⟨232, [(1, .slice (some ⟨y.2, 0, none⟩) 1 1)], [], y.1, F⟩) (fun y => Mem.le M0 y.1 ∧ Fits2 y.1 (.slice (some ⟨y.2, 0, none⟩) 1 1) ([[true, true]] : List (List Bool))) ?_ (fun y hy => ?_)
  · skip
    repeat (first | ((with_reducible refine Tr.step rfl ?_); (first | ((with_reducible refine Knd.assign ?_); (refine Exec.stab rfl (Stab.assign rfl) rfl ?_)) | ((with_reducible refine Knd.buildSlice ?_); ((refine Exec.buildSlice (tysOk.get rfl) rfl (tysOk.get rfl) rfl rfl rfl rfl rfl (by repeat (first | exact BuildP.nil | ((apply BuildP.one); (rfl); (rfl); (first | rfl | assumption); (repeat (first | exact SetL.z | apply SetL.s))))) rfl (fun b => ?_)))))) | (with_reducible refine Tr.region ?_) | (with_reducible refine Tr.nil ?_))
    refine Tr.publish (r := box _ 4 _) (by repeat (first | exact Del.here | apply Del.there)) (fun N1 hm1 hok => ?_)
    have hb1 := ofB (l := [true, true]) hok (by decide)
    clear hok
    refine Tr.publish (r := box _ 43 _) (by repeat (first | exact Del.here | apply Del.there)) (fun N2 hm2 hok => ?_)
    have hboth := ofF1 (x := [true, true]) hok (hb1.mono RBo.mono hm2)
    clear hok
    repeat (fail)
    refine Tr.land (N2, _) ⟨(hm1.trans hm2), hboth⟩ (holds_sub (by repeat (first | exact SubFr.nil | refine SubFr.cons rfl ?_)) (by repeat (first | exact DropL.refl | apply DropL.skip)))
  obtain ⟨M1, bb⟩ := y
  obtain ⟨hg1, hboth⟩ := hy
  dsimp only at hg1 hboth ⊢
  first | (refine Tr.seq ?_) | (refine Tr.next ?_; refine Tr.seq ?_)
  refine Tr.cut (α := Mem) (fun y => ⟨232, [(1, .slice (some ⟨bb, 0, none⟩) 1 1), (3, .bool true), (5, .int .i64 0)], [], y, F⟩) (fun y => Mem.le M1 y) ?_ (fun y hy => ?_)
  · skip
    repeat ((with_reducible refine Tr.region ?_))
    ((refine Tr.step rfl ?_))
    refine Exec.call0 rfl (flow_fn M1 _ _ _ _ _ _ ([] : List (List Bool)) ([] : List Int) ([] : List Int)  (SlOf.nil _ _ _) (SlOf.nil _ _ _) (SlOf.nil _ _ _)  (r64 _ (by decide)) (r64 _ (by decide))) rfl ?_
    rintro _ N1 hm1 hR
    obtain ⟨a, -, A, c, rfl, -⟩ := hR.yes rfl x1_yes
    clear hR
    repeat (first | ((with_reducible refine Tr.step rfl ?_); (first | ((with_reducible refine Knd.move ?_); (refine Exec.stab rfl (Stab.move rfl) rfl ?_)) | ((with_reducible refine Knd.assign ?_); (refine Exec.stab rfl (Stab.assign rfl) rfl ?_)) | ((with_reducible refine Knd.extract ?_); (refine Exec.stab rfl (Stab.extract rfl rfl) rfl ?_)))) | (with_reducible refine Tr.nil ?_))
    refine Tr.land N1 hm1 (holds_sub (by repeat (first | exact SubFr.nil | refine SubFr.cons rfl ?_)) (by repeat (first | exact DropL.refl | apply DropL.skip)))
  generalize y = M2 at *
  have hg2 := hy
  replace hboth := hboth.mono RRowB.mono hg2
  first | (refine Tr.seq ?_) | (refine Tr.next ?_; refine Tr.seq ?_)
  refine Tr.cut (α := Mem × Option Addr × Nat) (fun y => ⟨232, [(1, .slice (some ⟨bb, 0, none⟩) 1 1), (3, .bool true), (5, .int .i64 0), (7, .bool false), (8, .slice y.2.1 1 y.2.2), (9, .int .i64 0)], [], y.1, F⟩) (fun y => Mem.le M2 y.1 ∧ Ints y.1 (.slice y.2.1 1 y.2.2) ([0] : List Int)) ?_ (fun y hy => ?_)
  · skip
    repeat (first | ((with_reducible refine Tr.step rfl ?_); (((with_reducible refine Knd.buildSlice ?_); ((refine Exec.buildSlice (tysOk.get rfl) rfl (tysOk.get rfl) rfl rfl rfl rfl rfl (by repeat (first | exact BuildP.nil | ((apply BuildP.one); (rfl); (rfl); (first | rfl | assumption); (repeat (first | exact SetL.z | apply SetL.s))))) rfl (fun b => ?_)))))) | (with_reducible refine Tr.region ?_))
    refine Tr.publish (r := box _ 3 _) (by repeat (first | exact Del.here | apply Del.there)) (fun N1 hm1 hok => ?_)
    have hn := ofI (l := [1]) hok (by decide)
    clear hok
    ((refine Tr.step rfl ?_))
    refine Exec.call0 rfl (flow_fn N1 _ _ _ _ _ _ ([] : List (List Bool)) ([] : List Int) ([1] : List Int)  (SlOf.nil _ _ _) (SlOf.nil _ _ _) hn  (r64 _ (by decide)) (r64 _ (by decide))) rfl ?_
    rintro _ N2 hm2 hR
    obtain ⟨B, c, rfl, hI⟩ := hR.no rfl x2_no x2_cut
    clear hR
    repeat (first | ((with_reducible refine Tr.step rfl ?_); (first | ((with_reducible refine Knd.move ?_); (refine Exec.stab rfl (Stab.move rfl) rfl ?_)) | ((with_reducible refine Knd.assign ?_); (refine Exec.stab rfl (Stab.assign rfl) rfl ?_)) | ((with_reducible refine Knd.extract ?_); (refine Exec.stab rfl (Stab.extract rfl rfl) rfl ?_)))) | (with_reducible refine Tr.nil ?_))
    refine Tr.land (N2, B, c) ⟨(hm1.trans hm2), hI⟩ (holds_sub (by repeat (first | exact SubFr.nil | refine SubFr.cons rfl ?_)) (by repeat (first | exact DropL.refl | apply DropL.skip)))
  obtain ⟨M3, B2, k2⟩ := y
  obtain ⟨hg3, hcut2⟩ := hy
  dsimp only at hg3 hcut2 ⊢
  replace hboth := hboth.mono RRowB.mono hg3
  first | (refine Tr.seq ?_) | (refine Tr.next ?_; refine Tr.seq ?_)
  refine Tr.cut (α := Mem × Option Addr × Nat) (fun y => ⟨232, [(1, .slice (some ⟨bb, 0, none⟩) 1 1), (3, .bool true), (5, .int .i64 0), (7, .bool false), (8, .slice B2 1 k2), (9, .int .i64 0), (11, .bool false), (12, .slice y.2.1 2 y.2.2), (13, .int .i64 0)], [], y.1, F⟩) (fun y => Mem.le M3 y.1 ∧ Ints y.1 (.slice y.2.1 2 y.2.2) ([0, 1] : List Int)) ?_ (fun y hy => ?_)
  · skip
    repeat (first | ((with_reducible refine Tr.step rfl ?_); (first | ((with_reducible refine Knd.move ?_); (refine Exec.stab rfl (Stab.move rfl) rfl ?_)) | ((with_reducible refine Knd.buildSlice ?_); ((refine Exec.buildSlice (tysOk.get rfl) rfl (tysOk.get rfl) rfl rfl rfl rfl rfl (by repeat (first | exact BuildP.nil | ((apply BuildP.one); (rfl); (rfl); (first | rfl | assumption); (repeat (first | exact SetL.z | apply SetL.s))))) rfl (fun b => ?_)))))) | (with_reducible refine Tr.region ?_))
    refine Tr.publish (r := box _ 3 _) (by repeat (first | exact Del.here | apply Del.there)) (fun N1 hm1 hok => ?_)
    have hn := ofI (l := [2, 2]) hok (by decide)
    clear hok
    refine Tr.publish (r := box _ 3 _) (by repeat (first | exact Del.here | apply Del.there)) (fun N2 hm2 hok => ?_)
    have hs := ofI (l := [3]) hok (by decide)
    clear hok
    ((refine Tr.step rfl ?_))
    refine Exec.call0 rfl (flow_fn N2 _ _ _ _ _ _ ([[true, true]] : List (List Bool)) ([3] : List Int) ([2, 2] : List Int)  (hboth.mono RRowB.mono (hm1.trans hm2)) hs (hn.mono RI.mono hm2)  (r64 _ (by decide)) (r64 _ (by decide))) rfl ?_
    rintro _ N3 hm3 hR
    obtain ⟨B, c, rfl, hI⟩ := hR.no rfl x3_no x3_cut
    clear hR
    repeat (first | ((with_reducible refine Tr.step rfl ?_); (first | ((with_reducible refine Knd.move ?_); (refine Exec.stab rfl (Stab.move rfl) rfl ?_)) | ((with_reducible refine Knd.assign ?_); (refine Exec.stab rfl (Stab.assign rfl) rfl ?_)) | ((with_reducible refine Knd.extract ?_); (refine Exec.stab rfl (Stab.extract rfl rfl) rfl ?_)))) | (with_reducible refine Tr.nil ?_))
    refine Tr.land (N3, B, c) ⟨(hm1.trans (hm2.trans hm3)), hI⟩ (holds_sub (by repeat (first | exact SubFr.nil | refine SubFr.cons rfl ?_)) (by repeat (first | exact DropL.refl | apply DropL.skip)))
  obtain ⟨M4, B3, k3⟩ := y
  obtain ⟨hg4, hcut3⟩ := hy
  dsimp only at hg4 hcut3 ⊢
  replace hboth := hboth.mono RRowB.mono hg4
  replace hcut2 := hcut2.mono RI.mono hg4
  first | (refine Tr.seq ?_) | (refine Tr.next ?_; refine Tr.seq ?_)
  refine Tr.cut (α := Mem × Option Addr × Nat) (fun y => ⟨232, [(1, .slice (some ⟨bb, 0, none⟩) 1 1), (3, .bool true), (5, .int .i64 0), (7, .bool false), (8, .slice B2 1 k2), (9, .int .i64 0), (11, .bool false), (12, .slice B3 2 k3), (13, .int .i64 0), (14, .slice y.2.1 2 y.2.2), (15, .bool true), (17, .int .i64 0)], [], y.1, F⟩) (fun y => Mem.le M4 y.1 ∧ Ints2 y.1 (.slice y.2.1 2 y.2.2) ([[2], [1]] : List (List Int))) ?_ (fun y hy => ?_)
  · skip
    repeat (first | ((with_reducible refine Tr.step rfl ?_); (((with_reducible refine Knd.buildSlice ?_); ((refine Exec.buildSlice (tysOk.get rfl) rfl (tysOk.get rfl) rfl rfl rfl rfl rfl (by repeat (first | exact BuildP.nil | ((apply BuildP.one); (rfl); (rfl); (first | rfl | assumption); (repeat (first | exact SetL.z | apply SetL.s))))) rfl (fun b => ?_)))))) | (with_reducible refine Tr.region ?_))
    refine Tr.publish (r := box _ 3 _) (by repeat (first | exact Del.here | apply Del.there)) (fun N1 hm1 hok => ?_)
    have hn := ofI (l := [3]) hok (by decide)
    clear hok
    refine Tr.publish (r := box _ 3 _) (by repeat (first | exact Del.here | apply Del.there)) (fun N2 hm2 hok => ?_)
    have hs := ofI (l := [2, 2]) hok (by decide)
    clear hok
    refine Tr.publish (r := box _ 4 _) (by repeat (first | exact Del.here | apply Del.there)) (fun N3 hm3 hok => ?_)
    have hb2_ := ofB (l := [true]) hok (by decide)
    clear hok
    refine Tr.publish (r := box _ 4 _) (by repeat (first | exact Del.here | apply Del.there)) (fun N4 hm4 hok => ?_)
    have hb1_ := ofB (l := [true]) hok (by decide)
    clear hok
    refine Tr.publish (r := box _ 43 _) (by repeat (first | exact Del.here | apply Del.there)) (fun N5 hm5 hok => ?_)
    have hf := ofF2 (x := [true]) (y := [true]) hok (hb1_.mono RBo.mono hm5) (hb2_.mono RBo.mono (hm4.trans hm5))
    clear hok
    ((refine Tr.step rfl ?_))
    refine Exec.call0 rfl (flow_fn N5 _ _ _ _ _ _ ([[true], [true]] : List (List Bool)) ([2, 2] : List Int) ([3] : List Int)  hf (hs.mono RI.mono (hm3.trans (hm4.trans hm5))) (hn.mono RI.mono (hm2.trans (hm3.trans (hm4.trans hm5))))  (r64 _ (by decide)) (r64 _ (by decide))) rfl ?_
    rintro _ N6 hm6 hR
    obtain ⟨a, hmax, A, c, rfl, hI⟩ := hR.yes rfl x4_yes
    clear hR
    rw [show allocOf a ([3] : List Int).length ([2, 2] : List Int).length = [[2], [1]] from x4_max hmax] at hI ⊢
    repeat (first | ((with_reducible refine Tr.step rfl ?_); (first | ((with_reducible refine Knd.move ?_); (refine Exec.stab rfl (Stab.move rfl) rfl ?_)) | ((with_reducible refine Knd.assign ?_); (refine Exec.stab rfl (Stab.assign rfl) rfl ?_)) | ((with_reducible refine Knd.extract ?_); (refine Exec.stab rfl (Stab.extract rfl rfl) rfl ?_)))) | (with_reducible refine Tr.nil ?_))
    refine Tr.land (N6, A, c) ⟨(hm1.trans (hm2.trans (hm3.trans (hm4.trans (hm5.trans hm6))))), hI⟩ (holds_sub (by repeat (first | exact SubFr.nil | refine SubFr.cons rfl ?_)) (by repeat (first | exact DropL.refl | apply DropL.skip)))
  obtain ⟨M5, B4, k4⟩ := y
  obtain ⟨hg5, ham4⟩ := hy
  dsimp only at hg5 ham4 ⊢
  replace hboth := hboth.mono RRowB.mono hg5
  replace hcut2 := hcut2.mono RI.mono hg5
  replace hcut3 := hcut3.mono RI.mono hg5
  first | (refine Tr.seq ?_) | (refine Tr.next ?_; refine Tr.seq ?_)
  refine Tr.cut (α := Mem × Option Addr × Nat) (fun y => ⟨232, [(1, .slice (some ⟨bb, 0, none⟩) 1 1), (3, .bool true), (5, .int .i64 0), (7, .bool false), (8, .slice B2 1 k2), (9, .int .i64 0), (11, .bool false), (12, .slice B3 2 k3), (13, .int .i64 0), (14, .slice B4 2 k4), (15, .bool true), (17, .int .i64 0), (18, .slice y.2.1 2 y.2.2), (19, .bool true), (21, .int .i64 0)], [], y.1, F⟩) (fun y => Mem.le M5 y.1 ∧ Ints2 y.1 (.slice y.2.1 2 y.2.2) ([[1, 2], [1, 0]] : List (List Int))) ?_ (fun y hy => ?_)
  · skip
    repeat (first | ((with_reducible refine Tr.step rfl ?_); (((with_reducible refine Knd.buildSlice ?_); ((refine Exec.buildSlice (tysOk.get rfl) rfl (tysOk.get rfl) rfl rfl rfl rfl rfl (by repeat (first | exact BuildP.nil | ((apply BuildP.one); (rfl); (rfl); (first | rfl | assumption); (repeat (first | exact SetL.z | apply SetL.s))))) rfl (fun b => ?_)))))) | (with_reducible refine Tr.region ?_))
    refine Tr.publish (r := box _ 3 _) (by repeat (first | exact Del.here | apply Del.there)) (fun N1 hm1 hok => ?_)
    have hn := ofI (l := [2, 2]) hok (by decide)
    clear hok
    refine Tr.publish (r := box _ 3 _) (by repeat (first | exact Del.here | apply Del.there)) (fun N2 hm2 hok => ?_)
    have hs := ofI (l := [3, 3]) hok (by decide)
    clear hok
    refine Tr.publish (r := box _ 4 _) (by repeat (first | exact Del.here | apply Del.there)) (fun N3 hm3 hok => ?_)
    have hb2_ := ofB (l := [true, false]) hok (by decide)
    clear hok
    refine Tr.publish (r := box _ 4 _) (by repeat (first | exact Del.here | apply Del.there)) (fun N4 hm4 hok => ?_)
    have hb1_ := ofB (l := [true, true]) hok (by decide)
    clear hok
    refine Tr.publish (r := box _ 43 _) (by repeat (first | exact Del.here | apply Del.there)) (fun N5 hm5 hok => ?_)
    have hf := ofF2 (x := [true, true]) (y := [true, false]) hok (hb1_.mono RBo.mono hm5) (hb2_.mono RBo.mono (hm4.trans hm5))
    clear hok
    ((refine Tr.step rfl ?_))
    refine Exec.call0 rfl (flow_fn N5 _ _ _ _ _ _ ([[true, true], [true, false]] : List (List Bool)) ([3, 3] : List Int) ([2, 2] : List Int)  hf (hs.mono RI.mono (hm3.trans (hm4.trans hm5))) (hn.mono RI.mono (hm2.trans (hm3.trans (hm4.trans hm5))))  (r64 _ (by decide)) (r64 _ (by decide))) rfl ?_
    rintro _ N6 hm6 hR
    obtain ⟨a, hmax, A, c, rfl, hI⟩ := hR.yes rfl x5_yes
    clear hR
    rw [show allocOf a ([2, 2] : List Int).length ([3, 3] : List Int).length = [[1, 2], [1, 0]] from x5_max hmax] at hI ⊢
    repeat (first | ((with_reducible refine Tr.step rfl ?_); (first | ((with_reducible refine Knd.move ?_); (refine Exec.stab rfl (Stab.move rfl) rfl ?_)) | ((with_reducible refine Knd.assign ?_); (refine Exec.stab rfl (Stab.assign rfl) rfl ?_)) | ((with_reducible refine Knd.extract ?_); (refine Exec.stab rfl (Stab.extract rfl rfl) rfl ?_)))) | (with_reducible refine Tr.nil ?_))
    refine Tr.land (N6, A, c) ⟨(hm1.trans (hm2.trans (hm3.trans (hm4.trans (hm5.trans hm6))))), hI⟩ (holds_sub (by repeat (first | exact SubFr.nil | refine SubFr.cons rfl ?_)) (by repeat (first | exact DropL.refl | apply DropL.skip)))
  obtain ⟨M6, B5, k5⟩ := y
  obtain ⟨hg6, ham5⟩ := hy
  dsimp only at hg6 ham5 ⊢
  replace hboth := hboth.mono RRowB.mono hg6
  replace hcut2 := hcut2.mono RI.mono hg6
  replace hcut3 := hcut3.mono RI.mono hg6
  replace ham4 := ham4.mono RRowI.mono hg6
  first | (refine Tr.seq ?_) | (refine Tr.next ?_; refine Tr.seq ?_)
  refine Tr.cut (α := Mem × Option Addr × Nat) (fun y => ⟨232, [(1, .slice (some ⟨bb, 0, none⟩) 1 1), (3, .bool true), (5, .int .i64 0), (7, .bool false), (8, .slice B2 1 k2), (9, .int .i64 0), (11, .bool false), (12, .slice B3 2 k3), (13, .int .i64 0), (14, .slice B4 2 k4), (15, .bool true), (17, .int .i64 0), (18, .slice B5 2 k5), (19, .bool true), (21, .int .i64 0), (23, .bool false), (24, .slice y.2.1 1 y.2.2), (25, .int .i64 0)], [], y.1, F⟩) (fun y => Mem.le M6 y.1 ∧ Ints y.1 (.slice y.2.1 1 y.2.2) ([0] : List Int)) ?_ (fun y hy => ?_)
  · skip
    repeat (first | ((with_reducible refine Tr.step rfl ?_); (((with_reducible refine Knd.buildSlice ?_); ((refine Exec.buildSlice (tysOk.get rfl) rfl (tysOk.get rfl) rfl rfl rfl rfl rfl (by repeat (first | exact BuildP.nil | ((apply BuildP.one); (rfl); (rfl); (first | rfl | assumption); (repeat (first | exact SetL.z | apply SetL.s))))) rfl (fun b => ?_)))))) | (with_reducible refine Tr.region ?_))
    refine Tr.publish (r := box _ 3 _) (by repeat (first | exact Del.here | apply Del.there)) (fun N1 hm1 hok => ?_)
    have hn := ofI (l := [2, 3, 3]) hok (by decide)
    clear hok
    refine Tr.publish (r := box _ 3 _) (by repeat (first | exact Del.here | apply Del.there)) (fun N2 hm2 hok => ?_)
    have hs := ofI (l := [1, 5]) hok (by decide)
    clear hok
    refine Tr.publish (r := box _ 4 _) (by repeat (first | exact Del.here | apply Del.there)) (fun N3 hm3 hok => ?_)
    have hb2_ := ofB (l := [false, true, true]) hok (by decide)
    clear hok
    refine Tr.publish (r := box _ 4 _) (by repeat (first | exact Del.here | apply Del.there)) (fun N4 hm4 hok => ?_)
    have hb1_ := ofB (l := [true, false, true]) hok (by decide)
    clear hok
    refine Tr.publish (r := box _ 43 _) (by repeat (first | exact Del.here | apply Del.there)) (fun N5 hm5 hok => ?_)
    have hf := ofF2 (x := [true, false, true]) (y := [false, true, true]) hok (hb1_.mono RBo.mono hm5) (hb2_.mono RBo.mono (hm4.trans hm5))
    clear hok
    ((refine Tr.step rfl ?_))
    refine Exec.call0 rfl (flow_fn N5 _ _ _ _ _ _ ([[true, false, true], [false, true, true]] : List (List Bool)) ([1, 5] : List Int) ([2, 3, 3] : List Int)  hf (hs.mono RI.mono (hm3.trans (hm4.trans hm5))) (hn.mono RI.mono (hm2.trans (hm3.trans (hm4.trans hm5))))  (r64 _ (by decide)) (r64 _ (by decide))) rfl ?_
    rintro _ N6 hm6 hR
    obtain ⟨B, c, rfl, hI⟩ := hR.no rfl x6_no x6_cut
    clear hR
    repeat (first | ((with_reducible refine Tr.step rfl ?_); (first | ((with_reducible refine Knd.move ?_); (refine Exec.stab rfl (Stab.move rfl) rfl ?_)) | ((with_reducible refine Knd.assign ?_); (refine Exec.stab rfl (Stab.assign rfl) rfl ?_)) | ((with_reducible refine Knd.extract ?_); (refine Exec.stab rfl (Stab.extract rfl rfl) rfl ?_)))) | (with_reducible refine Tr.nil ?_))
    refine Tr.land (N6, B, c) ⟨(hm1.trans (hm2.trans (hm3.trans (hm4.trans (hm5.trans hm6))))), hI⟩ (holds_sub (by repeat (first | exact SubFr.nil | refine SubFr.cons rfl ?_)) (by repeat (first | exact DropL.refl | apply DropL.skip)))
  obtain ⟨M7, B6, k6⟩ := y
  obtain ⟨hg7, hcut6⟩ := hy
  dsimp only at hg7 hcut6 ⊢
  replace hboth := hboth.mono RRowB.mono hg7
  replace hcut2 := hcut2.mono RI.mono hg7
  replace hcut3 := hcut3.mono RI.mono hg7
  replace ham4 := ham4.mono RRowI.mono hg7
  replace ham5 := ham5.mono RRowI.mono hg7
  first | (refine Tr.seq ?_) | (refine Tr.next ?_; refine Tr.seq ?_)
  refine Tr.cut (α := Mem) (fun y => ⟨232, [(1, .slice (some ⟨bb, 0, none⟩) 1 1), (3, .bool true), (5, .int .i64 0), (7, .bool false), (8, .slice B2 1 k2), (9, .int .i64 0), (11, .bool false), (12, .slice B3 2 k3), (13, .int .i64 0), (14, .slice B4 2 k4), (15, .bool true), (17, .int .i64 0), (18, .slice B5 2 k5), (19, .bool true), (21, .int .i64 0), (23, .bool false), (24, .slice B6 1 k6), (25, .int .i64 0), (26, .int .i64 3), (27, .int .i64 0)], [], y, F⟩) (fun y => Mem.le M7 y) ?_ (fun y hy => ?_)
  · skip
    repeat (first | ((with_reducible refine Tr.step rfl ?_); (((with_reducible refine Knd.buildSlice ?_); ((refine Exec.buildSlice (tysOk.get rfl) rfl (tysOk.get rfl) rfl rfl rfl rfl rfl (by repeat (first | exact BuildP.nil | ((apply BuildP.one); (rfl); (rfl); (first | rfl | assumption); (repeat (first | exact SetL.z | apply SetL.s))))) rfl (fun b => ?_)))))) | (with_reducible refine Tr.region ?_))
    refine Tr.publish (r := box _ 3 _) (by repeat (first | exact Del.here | apply Del.there)) (fun N1 hm1 hok => ?_)
    have hn := ofI (l := [5]) hok (by decide)
    clear hok
    refine Tr.publish (r := box _ 3 _) (by repeat (first | exact Del.here | apply Del.there)) (fun N2 hm2 hok => ?_)
    have hs := ofI (l := [3]) hok (by decide)
    clear hok
    refine Tr.publish (r := box _ 4 _) (by repeat (first | exact Del.here | apply Del.there)) (fun N3 hm3 hok => ?_)
    have hb := ofB (l := [true]) hok (by decide)
    clear hok
    refine Tr.publish (r := box _ 43 _) (by repeat (first | exact Del.here | apply Del.there)) (fun N4 hm4 hok => ?_)
    have hf := ofF1 (x := [true]) hok (hb.mono RBo.mono hm4)
    clear hok
    ((refine Tr.step rfl ?_))
    refine Exec.call0 rfl (most2_fn N4 _ _ _ _ _ _ ([[true]] : List (List Bool)) ([3] : List Int) ([5] : List Int)  hf (hs.mono RI.mono (hm3.trans hm4)) (hn.mono RI.mono (hm2.trans (hm3.trans hm4)))  (r64 _ (by decide)) (r64 _ (by decide))) rfl ?_
    rintro _ _ - ⟨hR, rfl⟩
    rcases hR with ⟨h, -⟩ | ⟨-, L7, rfl, hL7⟩
    · cases h
    have e7 := hL7.unique x7_lack
    subst e7
    rw [show ([5] : List Int).sum - 2 = 3 from rfl]
    repeat (first | ((with_reducible refine Tr.step rfl ?_); (first | ((with_reducible refine Knd.move ?_); (refine Exec.stab rfl (Stab.move rfl) rfl ?_)) | ((with_reducible refine Knd.assign ?_); (refine Exec.stab rfl (Stab.assign rfl) rfl ?_)) | ((with_reducible refine Knd.extract ?_); (refine Exec.stab rfl (Stab.extract rfl rfl) rfl ?_)))) | (with_reducible refine Tr.nil ?_))
    refine Tr.land N4 (hm1.trans (hm2.trans (hm3.trans hm4))) (holds_sub (by repeat (first | exact SubFr.nil | refine SubFr.cons rfl ?_)) (by repeat (first | exact DropL.refl | apply DropL.skip)))
  generalize y = M8 at *
  have hg8 := hy
  replace hboth := hboth.mono RRowB.mono hg8
  replace hcut2 := hcut2.mono RI.mono hg8
  replace hcut3 := hcut3.mono RI.mono hg8
  replace ham4 := ham4.mono RRowI.mono hg8
  replace ham5 := ham5.mono RRowI.mono hg8
  replace hcut6 := hcut6.mono RI.mono hg8
  first | (refine Tr.seq ?_) | (refine Tr.next ?_; refine Tr.seq ?_)
  refine Tr.cut (α := Mem) (fun y => ⟨232, [(1, .slice (some ⟨bb, 0, none⟩) 1 1), (3, .bool true), (5, .int .i64 0), (7, .bool false), (8, .slice B2 1 k2), (9, .int .i64 0), (11, .bool false), (12, .slice B3 2 k3), (13, .int .i64 0), (14, .slice B4 2 k4), (15, .bool true), (17, .int .i64 0), (18, .slice B5 2 k5), (19, .bool true), (21, .int .i64 0), (23, .bool false), (24, .slice B6 1 k6), (25, .int .i64 0), (26, .int .i64 3), (27, .int .i64 0), (28, .bool true), (29, .int .i64 0)], [], y, F⟩) (fun y => Mem.le M8 y) ?_ (fun y hy => ?_)
  · skip
    repeat (first | ((with_reducible refine Tr.step rfl ?_); (first | ((with_reducible refine Knd.move ?_); (refine Exec.stab rfl (Stab.move rfl) rfl ?_)) | ((with_reducible refine Knd.buildSlice ?_); ((refine Exec.buildSlice (tysOk.get rfl) rfl (tysOk.get rfl) rfl rfl rfl rfl rfl (by repeat (first | exact BuildP.nil | ((apply BuildP.one); (rfl); (rfl); (first | rfl | assumption); (repeat (first | exact SetL.z | apply SetL.s))))) rfl (fun b => ?_)))))) | (with_reducible refine Tr.region ?_))
    refine Tr.publish (r := box _ 3 _) (by repeat (first | exact Del.here | apply Del.there)) (fun N1 hm1 hok => ?_)
    have hr := ofI (l := [2, 1]) hok (by decide)
    clear hok
    refine Tr.publish (r := box _ 3 _) (by repeat (first | exact Del.here | apply Del.there)) (fun N2 hm2 hok => ?_)
    have hn := ofI (l := [2, 1]) hok (by decide)
    clear hok
    refine Tr.publish (r := box _ 3 _) (by repeat (first | exact Del.here | apply Del.there)) (fun N3 hm3 hok => ?_)
    have hs := ofI (l := [3]) hok (by decide)
    clear hok
    refine Tr.publish (r := box _ 23 _) (by repeat (first | exact Del.here | apply Del.there)) (fun N4 hm4 hok => ?_)
    have ha := ofA1 (x := [2, 1]) hok (hr.mono RI.mono (hm2.trans (hm3.trans hm4)))
    clear hok
    ((refine Tr.step rfl ?_))
    refine Exec.call0 rfl (check_fn N4 _ _ _ _ _ _ _ _ ([[true, true]] : List (List Bool)) ([3] : List Int) ([2, 1] : List Int) ([[2, 1]] : List (List Int)) (hboth.mono RRowB.mono (hm1.trans (hm2.trans (hm3.trans hm4)))) (hs.mono RI.mono hm4) (hn.mono RI.mono (hm3.trans hm4)) ha (r64 _ (by decide)) (r64 _ (by decide))) rfl ?_
    rintro _ _ - ⟨hR, rfl⟩
    obtain rfl := hR.yes rfl x8_check
    clear hR
    repeat (first | ((with_reducible refine Tr.step rfl ?_); (first | ((with_reducible refine Knd.move ?_); (refine Exec.stab rfl (Stab.move rfl) rfl ?_)) | ((with_reducible refine Knd.assign ?_); (refine Exec.stab rfl (Stab.assign rfl) rfl ?_)) | ((with_reducible refine Knd.extract ?_); (refine Exec.stab rfl (Stab.extract rfl rfl) rfl ?_)))) | (with_reducible refine Tr.nil ?_))
    refine Tr.land N4 (hm1.trans (hm2.trans (hm3.trans hm4))) (holds_sub (by repeat (first | exact SubFr.nil | refine SubFr.cons rfl ?_)) (by repeat (first | exact DropL.refl | apply DropL.skip)))
  generalize y = M9 at *
  have hg9 := hy
  replace hboth := hboth.mono RRowB.mono hg9
  replace hcut2 := hcut2.mono RI.mono hg9
  replace hcut3 := hcut3.mono RI.mono hg9
  replace ham4 := ham4.mono RRowI.mono hg9
  replace ham5 := ham5.mono RRowI.mono hg9
  replace hcut6 := hcut6.mono RI.mono hg9
  first | (refine Tr.seq ?_) | (refine Tr.next ?_; refine Tr.seq ?_)
  refine Tr.cut (α := Mem) (fun y => ⟨232, [(1, .slice (some ⟨bb, 0, none⟩) 1 1), (3, .bool true), (5, .int .i64 0), (7, .bool false), (8, .slice B2 1 k2), (9, .int .i64 0), (11, .bool false), (12, .slice B3 2 k3), (13, .int .i64 0), (14, .slice B4 2 k4), (15, .bool true), (17, .int .i64 0), (18, .slice B5 2 k5), (19, .bool true), (21, .int .i64 0), (23, .bool false), (24, .slice B6 1 k6), (25, .int .i64 0), (26, .int .i64 3), (27, .int .i64 0), (28, .bool true), (29, .int .i64 0), (30, .bool true), (31, .int .i64 0)], [], y, F⟩) (fun y => Mem.le M9 y) ?_ (fun y hy => ?_)
  · skip
    repeat (first | ((with_reducible refine Tr.step rfl ?_); (first | ((with_reducible refine Knd.move ?_); (refine Exec.stab rfl (Stab.move rfl) rfl ?_)) | ((with_reducible refine Knd.buildSlice ?_); ((refine Exec.buildSlice (tysOk.get rfl) rfl (tysOk.get rfl) rfl rfl rfl rfl rfl (by repeat (first | exact BuildP.nil | ((apply BuildP.one); (rfl); (rfl); (first | rfl | assumption); (repeat (first | exact SetL.z | apply SetL.s))))) rfl (fun b => ?_)))))) | (with_reducible refine Tr.region ?_))
    refine Tr.publish (r := box _ 3 _) (by repeat (first | exact Del.here | apply Del.there)) (fun N1 hm1 hok => ?_)
    have hc := ofI (l := [0, 1]) hok (by decide)
    clear hok
    refine Tr.publish (r := box _ 3 _) (by repeat (first | exact Del.here | apply Del.there)) (fun N2 hm2 hok => ?_)
    have hn := ofI (l := [2, 2]) hok (by decide)
    clear hok
    refine Tr.publish (r := box _ 3 _) (by repeat (first | exact Del.here | apply Del.there)) (fun N3 hm3 hok => ?_)
    have hs := ofI (l := [3]) hok (by decide)
    clear hok
    ((refine Tr.step rfl ?_))
    refine Exec.call0 rfl (cut_fn N3 _ _ _ _ _ _ _ _ ([[true, true]] : List (List Bool)) ([3] : List Int) ([2, 2] : List Int) ([0, 1] : List Int) (hboth.mono RRowB.mono (hm1.trans (hm2.trans hm3))) hs (hn.mono RI.mono hm3) (hc.mono RI.mono (hm2.trans hm3)) (r64 _ (by decide)) (r64 _ (by decide))) rfl ?_
    rintro _ _ - ⟨hR, rfl⟩
    obtain rfl := hR.yes rfl x9_cut
    clear hR
    repeat (first | ((with_reducible refine Tr.step rfl ?_); (first | ((with_reducible refine Knd.move ?_); (refine Exec.stab rfl (Stab.move rfl) rfl ?_)) | ((with_reducible refine Knd.assign ?_); (refine Exec.stab rfl (Stab.assign rfl) rfl ?_)) | ((with_reducible refine Knd.extract ?_); (refine Exec.stab rfl (Stab.extract rfl rfl) rfl ?_)))) | (with_reducible refine Tr.nil ?_))
    refine Tr.land N3 (hm1.trans (hm2.trans hm3)) (holds_sub (by repeat (first | exact SubFr.nil | refine SubFr.cons rfl ?_)) (by repeat (first | exact DropL.refl | apply DropL.skip)))
  generalize y = M10 at *
  have hg10 := hy
  replace hboth := hboth.mono RRowB.mono hg10
  replace hcut2 := hcut2.mono RI.mono hg10
  replace hcut3 := hcut3.mono RI.mono hg10
  replace ham4 := ham4.mono RRowI.mono hg10
  replace ham5 := ham5.mono RRowI.mono hg10
  replace hcut6 := hcut6.mono RI.mono hg10
  first | (refine Tr.seq ?_) | (refine Tr.next ?_; refine Tr.seq ?_)
  refine Tr.cut (α := Mem) (fun y => ⟨232, [(1, .slice (some ⟨bb, 0, none⟩) 1 1), (3, .bool true), (5, .int .i64 0), (7, .bool false), (8, .slice B2 1 k2), (9, .int .i64 0), (11, .bool false), (12, .slice B3 2 k3), (13, .int .i64 0), (14, .slice B4 2 k4), (15, .bool true), (17, .int .i64 0), (18, .slice B5 2 k5), (19, .bool true), (21, .int .i64 0), (23, .bool false), (24, .slice B6 1 k6), (25, .int .i64 0), (26, .int .i64 3), (27, .int .i64 0), (28, .bool true), (29, .int .i64 0), (30, .bool true), (31, .int .i64 0), (32, .bool false), (33, .int .i64 0)], [], y, F⟩) (fun y => Mem.le M10 y) ?_ (fun y hy => ?_)
  · skip
    repeat (first | ((with_reducible refine Tr.step rfl ?_); (first | ((with_reducible refine Knd.move ?_); (refine Exec.stab rfl (Stab.move rfl) rfl ?_)) | ((with_reducible refine Knd.buildSlice ?_); ((refine Exec.buildSlice (tysOk.get rfl) rfl (tysOk.get rfl) rfl rfl rfl rfl rfl (by repeat (first | exact BuildP.nil | ((apply BuildP.one); (rfl); (rfl); (first | rfl | assumption); (repeat (first | exact SetL.z | apply SetL.s))))) rfl (fun b => ?_)))))) | (with_reducible refine Tr.region ?_))
    refine Tr.publish (r := box _ 3 _) (by repeat (first | exact Del.here | apply Del.there)) (fun N1 hm1 hok => ?_)
    have hn := ofI (l := [2, 2]) hok (by decide)
    clear hok
    refine Tr.publish (r := box _ 3 _) (by repeat (first | exact Del.here | apply Del.there)) (fun N2 hm2 hok => ?_)
    have hs := ofI (l := [3]) hok (by decide)
    clear hok
    ((refine Tr.step rfl ?_))
    refine Exec.call0 rfl (cut_fn N2 _ _ _ _ _ _ _ _ ([[true, true]] : List (List Bool)) ([3] : List Int) ([2, 2] : List Int) ([] : List Int) (hboth.mono RRowB.mono (hm1.trans hm2)) hs (hn.mono RI.mono hm2) (SlOf.nil _ _ _) (r64 _ (by decide)) (r64 _ (by decide))) rfl ?_
    rintro _ _ - ⟨hR, rfl⟩
    obtain rfl := hR.not rfl x10_cut
    clear hR
    repeat (first | ((with_reducible refine Tr.step rfl ?_); (first | ((with_reducible refine Knd.move ?_); (refine Exec.stab rfl (Stab.move rfl) rfl ?_)) | ((with_reducible refine Knd.assign ?_); (refine Exec.stab rfl (Stab.assign rfl) rfl ?_)) | ((with_reducible refine Knd.extract ?_); (refine Exec.stab rfl (Stab.extract rfl rfl) rfl ?_)))) | (with_reducible refine Tr.nil ?_))
    refine Tr.land N2 (hm1.trans hm2) (holds_sub (by repeat (first | exact SubFr.nil | refine SubFr.cons rfl ?_)) (by repeat (first | exact DropL.refl | apply DropL.skip)))
  generalize y = M11 at *
  have hg11 := hy
  replace hboth := hboth.mono RRowB.mono hg11
  replace hcut2 := hcut2.mono RI.mono hg11
  replace hcut3 := hcut3.mono RI.mono hg11
  replace ham4 := ham4.mono RRowI.mono hg11
  replace ham5 := ham5.mono RRowI.mono hg11
  replace hcut6 := hcut6.mono RI.mono hg11
  first | (refine Tr.seq ?_) | (refine Tr.next ?_; refine Tr.seq ?_)
  refine Tr.cut (α := Mem) (fun y => ⟨232, [(1, .slice (some ⟨bb, 0, none⟩) 1 1), (3, .bool true), (5, .int .i64 0), (7, .bool false), (8, .slice B2 1 k2), (9, .int .i64 0), (11, .bool false), (12, .slice B3 2 k3), (13, .int .i64 0), (14, .slice B4 2 k4), (15, .bool true), (17, .int .i64 0), (18, .slice B5 2 k5), (19, .bool true), (21, .int .i64 0), (23, .bool false), (24, .slice B6 1 k6), (25, .int .i64 0), (26, .int .i64 3), (27, .int .i64 0), (28, .bool true), (29, .int .i64 0), (30, .bool true), (31, .int .i64 0), (32, .bool false), (33, .int .i64 0), (34, .bool false), (35, .int .i64 300)], [], y, F⟩) (fun y => Mem.le M11 y) ?_ (fun y hy => ?_)
  · skip
    repeat (first | ((with_reducible refine Tr.step rfl ?_); (first | ((with_reducible refine Knd.move ?_); (refine Exec.stab rfl (Stab.move rfl) rfl ?_)) | ((with_reducible refine Knd.buildSlice ?_); ((refine Exec.buildSlice (tysOk.get rfl) rfl (tysOk.get rfl) rfl rfl rfl rfl rfl (by repeat (first | exact BuildP.nil | ((apply BuildP.one); (rfl); (rfl); (first | rfl | assumption); (repeat (first | exact SetL.z | apply SetL.s))))) rfl (fun b => ?_)))))) | (with_reducible refine Tr.region ?_))
    refine Tr.publish (r := box _ 3 _) (by repeat (first | exact Del.here | apply Del.there)) (fun N1 hm1 hok => ?_)
    have hn := ofI (l := [2, 1]) hok (by decide)
    clear hok
    refine Tr.publish (r := box _ 3 _) (by repeat (first | exact Del.here | apply Del.there)) (fun N2 hm2 hok => ?_)
    have hs := ofI (l := [(-1)]) hok (by decide)
    clear hok
    ((refine Tr.step rfl ?_))
    refine Exec.call0 rfl (check_fn N2 _ _ _ _ _ _ _ _ ([[true, true]] : List (List Bool)) ([(-1)] : List Int) ([2, 1] : List Int) ([] : List (List Int)) (hboth.mono RRowB.mono (hm1.trans hm2)) hs (hn.mono RI.mono hm2) (SlOf.nil _ _ _) (r64 _ (by decide)) (r64 _ (by decide))) rfl ?_
    rintro _ _ - ⟨hR, rfl⟩
    obtain rfl := hR.bad (by decide)
    clear hR
    repeat (first | ((with_reducible refine Tr.step rfl ?_); (first | ((with_reducible refine Knd.move ?_); (refine Exec.stab rfl (Stab.move rfl) rfl ?_)) | ((with_reducible refine Knd.assign ?_); (refine Exec.stab rfl (Stab.assign rfl) rfl ?_)) | ((with_reducible refine Knd.extract ?_); (refine Exec.stab rfl (Stab.extract rfl rfl) rfl ?_)))) | (with_reducible refine Tr.nil ?_))
    refine Tr.land N2 (hm1.trans hm2) (holds_sub (by repeat (first | exact SubFr.nil | refine SubFr.cons rfl ?_)) (by repeat (first | exact DropL.refl | apply DropL.skip)))
  generalize y = M12 at *
  have hg12 := hy
  replace hboth := hboth.mono RRowB.mono hg12
  replace hcut2 := hcut2.mono RI.mono hg12
  replace hcut3 := hcut3.mono RI.mono hg12
  replace ham4 := ham4.mono RRowI.mono hg12
  replace ham5 := ham5.mono RRowI.mono hg12
  replace hcut6 := hcut6.mono RI.mono hg12
  first | (refine Tr.seq ?_) | (refine Tr.next ?_; refine Tr.seq ?_)
  refine Tr.cut (α := Unit) (fun _ => ⟨232, [(3, .bool true), (7, .bool false), (8, .slice B2 1 k2), (11, .bool false), (12, .slice B3 2 k3), (14, .slice B4 2 k4), (15, .bool true), (18, .slice B5 2 k5), (19, .bool true), (23, .bool false), (24, .slice B6 1 k6), (26, .int .i64 3), (28, .bool true), (30, .bool true), (32, .bool false)], [], M12, F⟩) (fun _ => True) ?_ (fun _ _ => ?_)
  · repeat (first | ((with_reducible refine Tr.step rfl ?_); (first | ((with_reducible refine Knd.move ?_); (refine Exec.stab rfl (Stab.move rfl) rfl ?_)) | ((with_reducible refine Knd.binOp ?_); ((refine Exec.stab rfl (Stab.int rfl rfl rfl) rfl ?_))) | ((with_reducible refine Knd.pick ?_); ((refine Exec.stab rfl (Stab.pick_fd rfl (by first | (with_reducible assumption) | (with_reducible rfl) | (with_reducible exact (not_not_intro rfl)) | omega) rfl) rfl ?_))))) | (with_reducible refine Tr.next ?_) | (with_reducible refine Tr.seq ?_) | (with_reducible refine Tr.region ?_) | (with_reducible refine Tr.nil ?_) | ((refine Tr.guard_y' rfl rfl rfl (by first | (with_reducible assumption) | (with_reducible rfl) | (with_reducible exact (not_not_intro rfl)) | omega) ?_); (first | ((with_reducible refine Knd.move ?_); (refine Exec.stab rfl (Stab.move rfl) rfl ?_)) | ((with_reducible refine Knd.binOp ?_); ((refine Exec.stab rfl (Stab.int rfl rfl rfl) rfl ?_))))) | (with_reducible refine Tr.skip ?_) | (refine Tr.cond_f rfl (by first | (with_reducible assumption) | (with_reducible rfl) | (with_reducible exact (not_not_intro rfl)) | omega) ?_))
    refine Tr.land () trivial (holds_sub (by repeat (first | exact SubFr.nil | refine SubFr.cons rfl ?_)) (by repeat (first | exact DropL.refl | apply DropL.skip)))
  first | (refine Tr.seq ?_) | (refine Tr.next ?_; refine Tr.seq ?_)
  refine Tr.cut (α := Mem) (fun y => ⟨232, [(0, .bool true)], [], y, F⟩) (fun y => Mem.le M12 y) ?_ (fun y hy => ?_)
  · skip
    repeat (first | ((with_reducible refine Tr.step rfl ?_); (first | ((with_reducible refine Knd.move ?_); (refine Exec.stab rfl (Stab.move rfl) rfl ?_)) | ((with_reducible refine Knd.pick ?_); ((refine Exec.stab rfl (Stab.pick_t rfl (by first | (with_reducible rfl) | (with_reducible assumption) | (with_reducible exact Bool.not_true) | (with_reducible exact Bool.not_false)) rfl) rfl ?_))))) | (with_reducible refine Tr.region ?_) | ((refine Tr.guard_l rfl rfl rfl (by first | (with_reducible rfl) | (with_reducible assumption) | (with_reducible exact Bool.not_true) | (with_reducible exact Bool.not_false)) ?_); (first | ((with_reducible refine Knd.move ?_); (refine Exec.stab rfl (Stab.move rfl) rfl ?_)) | ((with_reducible refine Knd.unOp ?_); ((refine Exec.stab rfl (Stab.not rfl) rfl ?_))) | ((with_reducible refine Knd.buildSlice ?_); ((refine Exec.buildSlice (tysOk.get rfl) rfl (tysOk.get rfl) rfl rfl rfl rfl rfl (by repeat (first | exact BuildP.nil | ((apply BuildP.one); (rfl); (rfl); (first | rfl | assumption); (repeat (first | exact SetL.z | apply SetL.s))))) rfl (fun b => ?_)))))))
    refine Tr.publish (r := box _ 3 _) (by repeat (first | exact Del.here | apply Del.there)) (fun N1 hm1 hok => ?_)
    have hz := ofI (l := [0]) hok (by decide)
    clear hok
    ((refine Tr.guard_l rfl rfl rfl (by first | (with_reducible rfl) | (with_reducible assumption) | (with_reducible exact Bool.not_true) | (with_reducible exact Bool.not_false)) ?_))
    refine Exec.call0 rfl (rSameInts_fn N1 ([0] : List Int) _ _ _ _ (hcut2.mono RI.mono hm1) hz) rfl ?_
    rintro _ _ - ⟨rfl, rfl⟩
    repeat (first | ((with_reducible refine Tr.step rfl ?_); (first | ((with_reducible refine Knd.move ?_); (refine Exec.stab rfl (Stab.move rfl) rfl ?_)) | ((with_reducible refine Knd.pick ?_); ((refine Exec.stab rfl (Stab.pick_t rfl (by first | (with_reducible rfl) | (with_reducible assumption) | (with_reducible exact Bool.not_true) | (with_reducible exact Bool.not_false)) rfl) rfl ?_))))) | ((refine Tr.guard_l rfl rfl rfl (by first | (with_reducible rfl) | (with_reducible assumption) | (with_reducible exact Bool.not_true) | (with_reducible exact Bool.not_false)) ?_); (first | ((with_reducible refine Knd.move ?_); (refine Exec.stab rfl (Stab.move rfl) rfl ?_)) | ((with_reducible refine Knd.unOp ?_); ((refine Exec.stab rfl (Stab.not rfl) rfl ?_))) | ((with_reducible refine Knd.buildSlice ?_); ((refine Exec.buildSlice (tysOk.get rfl) rfl (tysOk.get rfl) rfl rfl rfl rfl rfl (by repeat (first | exact BuildP.nil | ((apply BuildP.one); (rfl); (rfl); (first | rfl | assumption); (repeat (first | exact SetL.z | apply SetL.s))))) rfl (fun b => ?_)))))))
    refine Tr.publish (r := box _ 3 _) (by repeat (first | exact Del.here | apply Del.there)) (fun N2 hm2 hok => ?_)
    have hz := ofI (l := [0, 1]) hok (by decide)
    clear hok
    ((refine Tr.guard_l rfl rfl rfl (by first | (with_reducible rfl) | (with_reducible assumption) | (with_reducible exact Bool.not_true) | (with_reducible exact Bool.not_false)) ?_))
    refine Exec.call0 rfl (rSameInts_fn N2 ([0, 1] : List Int) _ _ _ _ (hcut3.mono RI.mono (hm1.trans hm2)) hz) rfl ?_
    rintro _ _ - ⟨rfl, rfl⟩
    repeat (first | ((with_reducible refine Tr.step rfl ?_); (first | ((with_reducible refine Knd.move ?_); (refine Exec.stab rfl (Stab.move rfl) rfl ?_)) | ((with_reducible refine Knd.pick ?_); ((refine Exec.stab rfl (Stab.pick_t rfl (by first | (with_reducible rfl) | (with_reducible assumption) | (with_reducible exact Bool.not_true) | (with_reducible exact Bool.not_false)) rfl) rfl ?_))))) | ((refine Tr.guard_l rfl rfl rfl (by first | (with_reducible rfl) | (with_reducible assumption) | (with_reducible exact Bool.not_true) | (with_reducible exact Bool.not_false)) ?_); (first | ((with_reducible refine Knd.move ?_); (refine Exec.stab rfl (Stab.move rfl) rfl ?_)) | ((with_reducible refine Knd.buildSlice ?_); ((refine Exec.buildSlice (tysOk.get rfl) rfl (tysOk.get rfl) rfl rfl rfl rfl rfl (by repeat (first | exact BuildP.nil | ((apply BuildP.one); (rfl); (rfl); (first | rfl | assumption); (repeat (first | exact SetL.z | apply SetL.s))))) rfl (fun b => ?_)))))))
    refine Tr.publish (r := box _ 3 _) (by repeat (first | exact Del.here | apply Del.there)) (fun N3 hm3 hok => ?_)
    have hz2 := ofI (l := [1]) hok (by decide)
    clear hok
    refine Tr.publish (r := box _ 3 _) (by repeat (first | exact Del.here | apply Del.there)) (fun N4 hm4 hok => ?_)
    have hz1 := ofI (l := [2]) hok (by decide)
    clear hok
    refine Tr.publish (r := box _ 23 _) (by repeat (first | exact Del.here | apply Del.there)) (fun N5 hm5 hok => ?_)
    have hz := ofA2 (x := [2]) (y := [1]) hok (hz1.mono RI.mono hm5) (hz2.mono RI.mono (hm4.trans hm5))
    clear hok
    ((refine Tr.guard_l rfl rfl rfl (by first | (with_reducible rfl) | (with_reducible assumption) | (with_reducible exact Bool.not_true) | (with_reducible exact Bool.not_false)) ?_))
    refine Exec.call0 rfl (rSame_fn N5 ([[2], [1]] : List (List Int)) _ _ _ _ (ham4.mono RRowI.mono (hm1.trans (hm2.trans (hm3.trans (hm4.trans hm5))))) hz) rfl ?_
    rintro _ _ - ⟨rfl, rfl⟩
    repeat (first | ((with_reducible refine Tr.step rfl ?_); (first | ((with_reducible refine Knd.move ?_); (refine Exec.stab rfl (Stab.move rfl) rfl ?_)) | ((with_reducible refine Knd.pick ?_); ((refine Exec.stab rfl (Stab.pick_t rfl (by first | (with_reducible rfl) | (with_reducible assumption) | (with_reducible exact Bool.not_true) | (with_reducible exact Bool.not_false)) rfl) rfl ?_))))) | ((refine Tr.guard_l rfl rfl rfl (by first | (with_reducible rfl) | (with_reducible assumption) | (with_reducible exact Bool.not_true) | (with_reducible exact Bool.not_false)) ?_); (first | ((with_reducible refine Knd.move ?_); (refine Exec.stab rfl (Stab.move rfl) rfl ?_)) | ((with_reducible refine Knd.buildSlice ?_); ((refine Exec.buildSlice (tysOk.get rfl) rfl (tysOk.get rfl) rfl rfl rfl rfl rfl (by repeat (first | exact BuildP.nil | ((apply BuildP.one); (rfl); (rfl); (first | rfl | assumption); (repeat (first | exact SetL.z | apply SetL.s))))) rfl (fun b => ?_)))))))
    refine Tr.publish (r := box _ 3 _) (by repeat (first | exact Del.here | apply Del.there)) (fun N6 hm6 hok => ?_)
    have hz2 := ofI (l := [1, 0]) hok (by decide)
    clear hok
    refine Tr.publish (r := box _ 3 _) (by repeat (first | exact Del.here | apply Del.there)) (fun N7 hm7 hok => ?_)
    have hz1 := ofI (l := [1, 2]) hok (by decide)
    clear hok
    refine Tr.publish (r := box _ 23 _) (by repeat (first | exact Del.here | apply Del.there)) (fun N8 hm8 hok => ?_)
    have hz := ofA2 (x := [1, 2]) (y := [1, 0]) hok (hz1.mono RI.mono hm8) (hz2.mono RI.mono (hm7.trans hm8))
    clear hok
    ((refine Tr.guard_l rfl rfl rfl (by first | (with_reducible rfl) | (with_reducible assumption) | (with_reducible exact Bool.not_true) | (with_reducible exact Bool.not_false)) ?_))
    refine Exec.call0 rfl (rSame_fn N8 ([[1, 2], [1, 0]] : List (List Int)) _ _ _ _ (ham5.mono RRowI.mono (hm1.trans (hm2.trans (hm3.trans (hm4.trans (hm5.trans (hm6.trans (hm7.trans hm8)))))))) hz) rfl ?_
    rintro _ _ - ⟨rfl, rfl⟩
    repeat (first | ((with_reducible refine Tr.step rfl ?_); (first | ((with_reducible refine Knd.move ?_); (refine Exec.stab rfl (Stab.move rfl) rfl ?_)) | ((with_reducible refine Knd.pick ?_); ((refine Exec.stab rfl (Stab.pick_t rfl (by first | (with_reducible rfl) | (with_reducible assumption) | (with_reducible exact Bool.not_true) | (with_reducible exact Bool.not_false)) rfl) rfl ?_))))) | ((refine Tr.guard_l rfl rfl rfl (by first | (with_reducible rfl) | (with_reducible assumption) | (with_reducible exact Bool.not_true) | (with_reducible exact Bool.not_false)) ?_); (first | ((with_reducible refine Knd.move ?_); (refine Exec.stab rfl (Stab.move rfl) rfl ?_)) | ((with_reducible refine Knd.buildSlice ?_); ((refine Exec.buildSlice (tysOk.get rfl) rfl (tysOk.get rfl) rfl rfl rfl rfl rfl (by repeat (first | exact BuildP.nil | ((apply BuildP.one); (rfl); (rfl); (first | rfl | assumption); (repeat (first | exact SetL.z | apply SetL.s))))) rfl (fun b => ?_)))))))
    refine Tr.publish (r := box _ 3 _) (by repeat (first | exact Del.here | apply Del.there)) (fun N9 hm9 hok => ?_)
    have hz := ofI (l := [0]) hok (by decide)
    clear hok
    ((refine Tr.guard_l rfl rfl rfl (by first | (with_reducible rfl) | (with_reducible assumption) | (with_reducible exact Bool.not_true) | (with_reducible exact Bool.not_false)) ?_))
    refine Exec.call0 rfl (rSameInts_fn N9 ([0] : List Int) _ _ _ _ (hcut6.mono RI.mono (hm1.trans (hm2.trans (hm3.trans (hm4.trans (hm5.trans (hm6.trans (hm7.trans (hm8.trans hm9))))))))) hz) rfl ?_
    rintro _ _ - ⟨rfl, rfl⟩
    repeat (first | ((with_reducible refine Tr.step rfl ?_); (first | ((with_reducible refine Knd.move ?_); (refine Exec.stab rfl (Stab.move rfl) rfl ?_)) | ((with_reducible refine Knd.assign ?_); (refine Exec.stab rfl (Stab.assign rfl) rfl ?_)) | ((with_reducible refine Knd.pick ?_); (first | (refine Exec.stab rfl (Stab.pick_t rfl (by first | (with_reducible rfl) | (with_reducible assumption) | (with_reducible exact Bool.not_true) | (with_reducible exact Bool.not_false)) rfl) rfl ?_) | (refine Exec.stab rfl (Stab.pick_td rfl (by first | (with_reducible assumption) | (with_reducible rfl) | (with_reducible exact (not_not_intro rfl)) | omega) rfl) rfl ?_))))) | (with_reducible refine Tr.nil ?_) | ((refine Tr.guard_l rfl rfl rfl (by first | (with_reducible rfl) | (with_reducible assumption) | (with_reducible exact Bool.not_true) | (with_reducible exact Bool.not_false)) ?_); (first | ((with_reducible refine Knd.move ?_); (refine Exec.stab rfl (Stab.move rfl) rfl ?_)) | ((with_reducible refine Knd.binOp ?_); ((refine Exec.stab rfl (Stab.int rfl rfl rfl) rfl ?_))) | ((with_reducible refine Knd.unOp ?_); ((refine Exec.stab rfl (Stab.not rfl) rfl ?_))))) | ((refine Tr.guard_y rfl rfl rfl (by first | (with_reducible assumption) | (with_reducible rfl) | (with_reducible exact (not_not_intro rfl)) | omega) ?_); (((with_reducible refine Knd.move ?_); (refine Exec.stab rfl (Stab.move rfl) rfl ?_)))))
    refine Tr.land N9 (hm1.trans (hm2.trans (hm3.trans (hm4.trans (hm5.trans (hm6.trans (hm7.trans (hm8.trans hm9)))))))) (holds_sub (by repeat (first | exact SubFr.nil | refine SubFr.cons rfl ?_)) (by repeat (first | exact DropL.refl | apply DropL.skip)))
  repeat (first | (with_reducible refine Tr.next ?_) | (with_reducible refine Tr.ret ?_))
  have hfin := hg1.trans (hg2.trans (hg3.trans (hg4.trans (hg5.trans (hg6.trans (hg7.trans (hg8.trans (hg9.trans (hg10.trans (hg11.trans (hg12.trans hy)))))))))))
  (refine Tr.done (by first | exact .inl rfl | exact .inr rfl) rfl (by repeat (first | exact RVs.nil | (apply RVs.cons; (exact RV.tmp rfl)))) (by first | exact Mem.le.refl _ | assumption) (by exact ⟨[], rfl⟩) ⟨rfl, ?_⟩)
  rfl
end Go.Proofs.Ytmioocddmlfboaa
/-
  Matching: the contract of the reference's Check.
  Conditions: none.
-/
namespace Go.Proofs.Ytmioocddmlfboaa
open Go Bf
attribute [local irreducible] Tr Exec Stab HasTy Go.Addr.add IntKind.wrap
theorem CheckP.part {fits : List (List Bool)} {sup need : List Int} {am : List (List Int)} (h : CheckP fits sup need am) {i j : Nat} (hi : i < sup.length) (hj : j < need.length) : sumN j (am2 am i) + am2 am i j ≤ sup.getD i 0 := by
  have h1 := sumN_split (n := need.length) (k := j + 1) (am2 am i) (by omega)
  have h2 := sumN_nonneg (n := need.length - (j + 1)) (f := fun q => am2 am i (j + 1 + q)) (fun q hq => h.nn i _ hi (by omega))
  have h3 := h.row i hi
  have h4 : sumN (j + 1) (am2 am i) = sumN j (am2 am i) + am2 am i j := rfl
  omega
set_option maxHeartbeats 8000000 in
set_option maxRecDepth 20000 in
theorem rCheck_fn (M : Mem) (A0 A1 A2 A3 : Option Addr) (c0 c1 c2 c3 : Nat) (fits : List (List Bool)) (sup need : List Int) (am : List (List Int)) (hf : Fits2 M (.slice A0 fits.length c0) fits) (hs : Ints M (.slice A1 sup.length c1) sup) (hn : Ints M (.slice A2 need.length c2) need) (ha : Ints2 M (.slice A3 am.length c3) am) :
    Fn0 Try.prog 12 [.slice A0 fits.length c0, .slice A1 sup.length c1, .slice A2 need.length c2, .slice A3 am.length c3] M (fun r M' => CheckR fits sup need am r ∧ M = M') := by
  have la := ha.len_le
  refine Fn.intro Try.func12 rfl rfl Try.ntmps12 rfl fun E F => ?_
  repeat (first | ((with_reducible refine Tr.step rfl ?_); (first | ((with_reducible refine Knd.move ?_); (refine Exec.stab rfl (Stab.move rfl) rfl ?_)) | ((with_reducible refine Knd.assign ?_); (refine Exec.stab rfl (Stab.assign rfl) rfl ?_)))) | (with_reducible refine Tr.next ?_) | (with_reducible refine Tr.seq ?_) | (with_reducible refine Tr.region ?_) | (with_reducible refine Tr.nil ?_))
  ((refine Tr.step rfl ?_)); refine Exec.call0 rfl (rValid_fn M A0 A1 A2 c0 c1 c2 fits sup need hf hs hn) rfl ?_
  rintro _ _ _ ⟨rfl, rfl⟩
  cases hvv : validF fits sup need
  · repeat (first | ((with_reducible refine Tr.step rfl ?_); (first | ((with_reducible refine Knd.assign ?_); (refine Exec.stab rfl (Stab.assign rfl) rfl ?_)) | ((with_reducible refine Knd.unOp ?_); ((refine Exec.stab rfl (Stab.not rfl) rfl ?_))))) | (with_reducible refine Tr.next ?_) | (with_reducible refine Tr.seq ?_) | (with_reducible refine Tr.region ?_) | (with_reducible refine Tr.nil ?_) | (with_reducible refine Tr.ret ?_) | (with_reducible refine Tr.then_ret ?_) | (refine Tr.cond_bt rfl (by first | (with_reducible rfl) | (with_reducible assumption) | (with_reducible exact Bool.not_true) | (with_reducible exact Bool.not_false)) ?_))
    (refine Tr.done (by first | exact .inl rfl | exact .inr rfl) rfl (by repeat (first | exact RVs.nil | (apply RVs.cons; (exact RV.tmp rfl)))) (by first | exact Mem.le.refl _ | assumption) (by exact ⟨[], rfl⟩) ⟨rfl, ?_⟩)
    exact ⟨.inl ⟨hvv, rfl⟩, rfl⟩
  have hv := vld_iff.1 hvv
  have l1 := hv.ls
  have l2 := hv.ln
  have l3 := hv.lf
  by_cases hl : am.length = sup.length
  rotate_left
  · repeat (first | ((with_reducible refine Tr.step rfl ?_); (first | ((with_reducible refine Knd.move ?_); (refine Exec.stab rfl (Stab.move rfl) rfl ?_)) | ((with_reducible refine Knd.assign ?_); (refine Exec.stab rfl (Stab.assign rfl) rfl ?_)) | ((with_reducible refine Knd.len ?_); ((refine Exec.stab rfl (Stab.len rfl (tysOk.get rfl) rfl) rfl ?_))) | ((with_reducible refine Knd.binOp ?_); ((refine Exec.stab rfl (Stab.int rfl rfl rfl) rfl ?_))) | ((with_reducible refine Knd.unOp ?_); ((refine Exec.stab rfl (Stab.not rfl) rfl ?_))))) | (with_reducible refine Tr.next ?_) | (with_reducible refine Tr.seq ?_) | (with_reducible refine Tr.region ?_) | (with_reducible refine Tr.nil ?_) | (with_reducible refine Tr.skip ?_) | (with_reducible refine Tr.ret ?_) | (with_reducible refine Tr.then_ret ?_) | (refine Tr.cond_bf rfl (by first | (with_reducible rfl) | (with_reducible assumption) | (with_reducible exact Bool.not_true) | (with_reducible exact Bool.not_false)) ?_) | (refine Tr.cond_t rfl (by first | (with_reducible assumption) | (with_reducible rfl) | (with_reducible exact (not_not_intro rfl)) | omega) ?_))
    (refine Tr.done (by first | exact .inl rfl | exact .inr rfl) rfl (by repeat (first | exact RVs.nil | (apply RVs.cons; (exact RV.tmp rfl)))) (by first | exact Mem.le.refl _ | assumption) (by exact ⟨[], rfl⟩) ⟨rfl, ?_⟩)
    exact ⟨CheckR.no hv fun h => hl h.len, rfl⟩
  repeat (first | ((with_reducible refine Tr.step rfl ?_); (first | ((with_reducible refine Knd.move ?_); (refine Exec.stab rfl (Stab.move rfl) rfl ?_)) | ((with_reducible refine Knd.assign ?_); (refine Exec.stab rfl (Stab.assign rfl) rfl ?_)) | ((with_reducible refine Knd.len ?_); ((refine Exec.stab rfl (Stab.len rfl (tysOk.get rfl) rfl) rfl ?_))) | ((with_reducible refine Knd.binOp ?_); ((refine Exec.stab rfl (Stab.int rfl rfl rfl) rfl ?_))) | ((with_reducible refine Knd.unOp ?_); ((refine Exec.stab rfl (Stab.not rfl) rfl ?_))) | ((with_reducible refine Knd.makeSlice ?_); (refine Exec.make rfl rfl (tysOk.get rfl) rfl (tysOk.get rfl) rfl rfl rfl (by omega) (by omega) (by first | omega | (simp; done) | (simp; omega)) (by omega) rfl (fun b => ?_))))) | (with_reducible refine Tr.next ?_) | (with_reducible refine Tr.seq ?_) | (with_reducible refine Tr.region ?_) | (with_reducible refine Tr.nil ?_) | (with_reducible refine Tr.skip ?_) | (with_reducible refine Tr.block ?_) | (refine Tr.cond_bf rfl (by first | (with_reducible rfl) | (with_reducible assumption) | (with_reducible exact Bool.not_true) | (with_reducible exact Bool.not_false)) ?_) | (refine Tr.cond_f rfl (by first | (with_reducible assumption) | (with_reducible rfl) | (with_reducible exact (not_not_intro rfl)) | omega) ?_))
  rw [show ((need.length : Int)).toNat = need.length by omega, show List.replicate need.length (Value.int .i64 0) = intV (List.replicate need.length 0) by simp [intV]]
  generalize b = cb
  refine Tr.loop (α := Nat × List Int) (fun y => ⟨108, [(11, .int .i64 (y.1 : Int)), (10, .slice (some ⟨cb, 0, none⟩) need.length need.length), (0, .slice A0 fits.length c0), (1, .slice A1 sup.length c1), (2, .slice A2 need.length c2), (3, .slice A3 am.length c3)], [], M, box cb 3 (intV y.2) :: ([] ++ F)⟩)
    (fun y => y.1 ≤ sup.length ∧ Upto fits sup need am y.1 0 y.2) (fun y => sup.length - y.1) (0, List.replicate need.length 0) ⟨Nat.zero_le _, Upto.start _ _ _ _⟩ (holds_sub (by repeat (first | exact SubFr.nil | refine SubFr.cons rfl ?_)) (by repeat (first | exact DropL.refl | apply DropL.skip))) (fun y hy => ?_)
  obtain ⟨i, col⟩ := y
  obtain ⟨hi, hu⟩ := hy
  simp only at hi hu
  dsimp only
  have hcl := hu.cl
  have hcv : (intV col).length = need.length := by simp [hcl]
  by_cases hin : i < sup.length
  rotate_left
  · have ei : i = sup.length := by omega
    subst ei
    have hfin := hu.fin hl
    repeat (first | ((with_reducible refine Tr.step rfl ?_); (first | ((with_reducible refine Knd.move ?_); (refine Exec.stab rfl (Stab.move rfl) rfl ?_)) | ((with_reducible refine Knd.assign ?_); (refine Exec.stab rfl (Stab.assign rfl) rfl ?_)) | ((with_reducible refine Knd.len ?_); ((refine Exec.stab rfl (Stab.len rfl (tysOk.get rfl) rfl) rfl ?_))) | ((with_reducible refine Knd.binOp ?_); ((refine Exec.stab rfl (Stab.int rfl rfl rfl) rfl ?_))))) | (with_reducible refine Tr.next ?_) | (with_reducible refine Tr.seq ?_) | (with_reducible refine Tr.region ?_) | (with_reducible refine Tr.nil ?_) | (with_reducible refine Tr.block ?_) | (with_reducible refine Tr.exit ?_) | (with_reducible refine Tr.then_exit ?_) | ((with_reducible refine Tr.in_exit ?_ ?_); (exact rfl)) | (refine Tr.cond_f rfl (by first | (with_reducible assumption) | (with_reducible rfl) | (with_reducible exact (not_not_intro rfl)) | omega) ?_))
    refine Tr.loop (α := Nat) (fun y => ⟨108, [(15, .int .i64 (y : Int)), (10, .slice (some ⟨cb, 0, none⟩) need.length need.length), (2, .slice A2 need.length c2)], [], M, box cb 3 (intV col) :: ([] ++ F)⟩)
      (fun y => y ≤ need.length ∧ col.take y = need.take y) (fun y => need.length - y) 0 ⟨Nat.zero_le _, rfl⟩ (holds_sub (by repeat (first | exact SubFr.nil | refine SubFr.cons rfl ?_)) (by repeat (first | exact DropL.refl | apply DropL.skip))) (fun y hy => ?_)
    obtain ⟨hj, htk⟩ := hy
    by_cases hjn : y < need.length
    rotate_left
    · have ej : y = need.length := by omega
      subst ej
      rw [List.take_length, ← hcl, List.take_length] at htk
      repeat (first | ((with_reducible refine Tr.step rfl ?_); (first | ((with_reducible refine Knd.move ?_); (refine Exec.stab rfl (Stab.move rfl) rfl ?_)) | ((with_reducible refine Knd.assign ?_); (refine Exec.stab rfl (Stab.assign rfl) rfl ?_)) | ((with_reducible refine Knd.len ?_); ((refine Exec.stab rfl (Stab.len rfl (tysOk.get rfl) rfl) rfl ?_))) | ((with_reducible refine Knd.binOp ?_); ((refine Exec.stab rfl (Stab.int rfl rfl rfl) rfl ?_))))) | (with_reducible refine Tr.next ?_) | (with_reducible refine Tr.seq ?_) | (with_reducible refine Tr.region ?_) | (with_reducible refine Tr.nil ?_) | (with_reducible refine Tr.exit ?_) | (with_reducible refine Tr.ret ?_) | (with_reducible refine Tr.then_exit ?_) | ((with_reducible refine Tr.in_exit ?_ ?_); (exact rfl)) | (refine Tr.cond_f rfl (by first | (with_reducible assumption) | (with_reducible rfl) | (with_reducible exact (not_not_intro rfl)) | omega) ?_))
      (refine Tr.done (by first | exact .inl rfl | exact .inr rfl) rfl (by repeat (first | exact RVs.nil | (apply RVs.cons; (exact RV.tmp rfl)))) (by first | exact Mem.le.refl _ | assumption) (by exact ⟨[_], rfl⟩) ⟨rfl, ?_⟩)
      exact ⟨.inr ⟨hv, true, rfl, by simpa using hfin.1 htk⟩, rfl⟩
    obtain ⟨x, hx⟩ := get_of_lt (xs := col) (i := y) (by omega)
    obtain ⟨z, hz⟩ := get_of_lt hjn
    obtain ⟨hA2, zat⟩ := hn.at hz
    have hxv : nthL (intV col) y = some (.int .i64 x) := by rw [nthL_eq]; exact intV_get hx
    by_cases hxz : x = z
    · repeat (first | ((with_reducible refine Tr.step rfl ?_); (first | ((with_reducible refine Knd.move ?_); (refine Exec.stab rfl (Stab.move rfl) rfl ?_)) | ((with_reducible refine Knd.len ?_); ((refine Exec.stab rfl (Stab.len rfl (tysOk.get rfl) rfl) rfl ?_))) | ((with_reducible refine Knd.binOp ?_); ((refine Exec.stab rfl (Stab.int rfl rfl rfl) rfl ?_))))) | (with_reducible refine Tr.next ?_) | (with_reducible refine Tr.seq ?_) | (with_reducible refine Tr.region ?_) | (with_reducible refine Tr.nil ?_) | (with_reducible refine Tr.skip ?_) | (with_reducible refine Tr.block ?_) | (refine Tr.cond_t rfl (by first | (with_reducible assumption) | (with_reducible rfl) | (with_reducible exact (not_not_intro rfl)) | omega) ?_))
      (((apply Tr.draw); (kernel_rfl)); (refine TrA.take 0 (by kernel_rfl) rfl (by kernel_rfl) (by first | exact fun _ _ _ h => h | exact fun _ _ _ h => nomatch h.1) (by exact fun _ h => h) rfl (by first | exact Stab.move rfl) rfl rfl ?_); (refine TrA.take 1 (by kernel_rfl) rfl (by kernel_rfl) (by first | exact fun _ _ _ h => h | exact fun _ _ _ h => nomatch h.1) (by exact fun _ h => h) rfl (by first | exact Stab.move rfl) rfl rfl ?_); (refine TrA.take 4 (by kernel_rfl) rfl (by kernel_rfl) (by first | exact fun _ _ _ h => h | exact fun _ _ _ h => nomatch h.1) (by exact fun _ h => h) rfl (by first | exact Stab.move rfl) rfl rfl ?_); (refine TrA.take 5 (by kernel_rfl) rfl (by kernel_rfl) (by first | exact fun _ _ _ h => h | exact fun _ _ _ h => nomatch h.1) (by exact fun _ h => h) rfl (by first | exact Stab.move rfl) rfl rfl ?_); (refine TrA.take 2 (by kernel_rfl) rfl (by kernel_rfl) (by first | exact fun _ _ _ h => h | exact fun _ _ _ h => nomatch h.1) (by exact fun _ h => h) rfl (by exact Stab.indexB0 rfl rfl (tysOk.get rfl) rfl (tysOk.get rfl) rfl (by omega) (by omega)) rfl rfl ?_); (refine TrA.take 6 (by kernel_rfl) rfl (by kernel_rfl) (by first | exact fun _ _ _ h => h | exact fun _ _ _ h => nomatch h.1) (by exact fun _ h => h) rfl (by exact Stab.indexAddr rfl rfl (tysOk.get rfl) rfl (tysOk.get rfl) rfl (by omega) (by omega) (by first | rfl | assumption)) rfl rfl ?_); (refine TrA.take 3 (by kernel_rfl) rfl (by kernel_rfl) (by first | exact fun _ _ _ h => h | exact fun _ _ _ h => nomatch h.1) (by exact fun _ h => h) rfl (by exact Stab.load rfl (tysOk.get rfl) rfl (by repeat (first | exact Has.here | apply Has.there)) (by assumption)) rfl rfl ?_); (refine TrA.take 7 (by kernel_rfl) rfl (by kernel_rfl) (by first | exact fun _ _ _ h => h | exact fun _ _ _ h => nomatch h.1) (by exact fun _ h => h) rfl (by exact Stab.loadM rfl (tysOk.get rfl) rfl (by assumption)) rfl rfl ?_); (refine TrA.take 8 (by kernel_rfl) rfl (by kernel_rfl) (by first | exact fun _ _ _ h => h | exact fun _ _ _ h => nomatch h.1) (by exact fun _ h => h) rfl (by exact Stab.int rfl rfl rfl) rfl rfl ?_); (refine TrA.done (by kernel_rfl) ?_))
      repeat (first | ((with_reducible refine Tr.step rfl ?_); (first | ((with_reducible refine Knd.move ?_); (refine Exec.stab rfl (Stab.move rfl) rfl ?_)) | ((with_reducible refine Knd.assign ?_); (refine Exec.stab rfl (Stab.assign rfl) rfl ?_)) | ((with_reducible refine Knd.binOp ?_); ((refine Exec.stab rfl (Stab.addi rfl rfl (by omega)) rfl ?_))))) | (with_reducible refine Tr.next ?_) | (with_reducible refine Tr.region ?_) | (with_reducible refine Tr.nil ?_) | (with_reducible refine Tr.skip ?_) | (with_reducible refine Tr.in_normal ?_) | (refine Tr.cond_f rfl (by first | (with_reducible assumption) | (with_reducible rfl) | (with_reducible exact (not_not_intro rfl)) | omega) ?_))
      refine Tr.again (y + 1) ⟨by omega, by rw [List.take_add_one, List.take_add_one, hx, hz, htk, hxz]⟩ (by omega) (holds_sub (by repeat (first | exact SubFr.nil | refine SubFr.cons rfl ?_)) (by repeat (first | exact DropL.refl | apply DropL.skip)))
    · repeat (first | ((with_reducible refine Tr.step rfl ?_); (first | ((with_reducible refine Knd.move ?_); (refine Exec.stab rfl (Stab.move rfl) rfl ?_)) | ((with_reducible refine Knd.len ?_); ((refine Exec.stab rfl (Stab.len rfl (tysOk.get rfl) rfl) rfl ?_))) | ((with_reducible refine Knd.binOp ?_); ((refine Exec.stab rfl (Stab.int rfl rfl rfl) rfl ?_))))) | (with_reducible refine Tr.next ?_) | (with_reducible refine Tr.seq ?_) | (with_reducible refine Tr.region ?_) | (with_reducible refine Tr.nil ?_) | (with_reducible refine Tr.skip ?_) | (with_reducible refine Tr.block ?_) | (refine Tr.cond_t rfl (by first | (with_reducible assumption) | (with_reducible rfl) | (with_reducible exact (not_not_intro rfl)) | omega) ?_))
      (((apply Tr.draw); (kernel_rfl)); (refine TrA.take 0 (by kernel_rfl) rfl (by kernel_rfl) (by first | exact fun _ _ _ h => h | exact fun _ _ _ h => nomatch h.1) (by exact fun _ h => h) rfl (by first | exact Stab.move rfl) rfl rfl ?_); (refine TrA.take 1 (by kernel_rfl) rfl (by kernel_rfl) (by first | exact fun _ _ _ h => h | exact fun _ _ _ h => nomatch h.1) (by exact fun _ h => h) rfl (by first | exact Stab.move rfl) rfl rfl ?_); (refine TrA.take 4 (by kernel_rfl) rfl (by kernel_rfl) (by first | exact fun _ _ _ h => h | exact fun _ _ _ h => nomatch h.1) (by exact fun _ h => h) rfl (by first | exact Stab.move rfl) rfl rfl ?_); (refine TrA.take 5 (by kernel_rfl) rfl (by kernel_rfl) (by first | exact fun _ _ _ h => h | exact fun _ _ _ h => nomatch h.1) (by exact fun _ h => h) rfl (by first | exact Stab.move rfl) rfl rfl ?_); (refine TrA.take 2 (by kernel_rfl) rfl (by kernel_rfl) (by first | exact fun _ _ _ h => h | exact fun _ _ _ h => nomatch h.1) (by exact fun _ h => h) rfl (by exact Stab.indexB0 rfl rfl (tysOk.get rfl) rfl (tysOk.get rfl) rfl (by omega) (by omega)) rfl rfl ?_); (refine TrA.take 6 (by kernel_rfl) rfl (by kernel_rfl) (by first | exact fun _ _ _ h => h | exact fun _ _ _ h => nomatch h.1) (by exact fun _ h => h) rfl (by exact Stab.indexAddr rfl rfl (tysOk.get rfl) rfl (tysOk.get rfl) rfl (by omega) (by omega) (by first | rfl | assumption)) rfl rfl ?_); (refine TrA.take 3 (by kernel_rfl) rfl (by kernel_rfl) (by first | exact fun _ _ _ h => h | exact fun _ _ _ h => nomatch h.1) (by exact fun _ h => h) rfl (by exact Stab.load rfl (tysOk.get rfl) rfl (by repeat (first | exact Has.here | apply Has.there)) (by assumption)) rfl rfl ?_); (refine TrA.take 7 (by kernel_rfl) rfl (by kernel_rfl) (by first | exact fun _ _ _ h => h | exact fun _ _ _ h => nomatch h.1) (by exact fun _ h => h) rfl (by exact Stab.loadM rfl (tysOk.get rfl) rfl (by assumption)) rfl rfl ?_); (refine TrA.take 8 (by kernel_rfl) rfl (by kernel_rfl) (by first | exact fun _ _ _ h => h | exact fun _ _ _ h => nomatch h.1) (by exact fun _ h => h) rfl (by exact Stab.int rfl rfl rfl) rfl rfl ?_); (refine TrA.done (by kernel_rfl) ?_))
      repeat (first | ((with_reducible refine Tr.step rfl ?_); (((with_reducible refine Knd.assign ?_); (refine Exec.stab rfl (Stab.assign rfl) rfl ?_)))) | (with_reducible refine Tr.next ?_) | (with_reducible refine Tr.seq ?_) | (with_reducible refine Tr.region ?_) | (with_reducible refine Tr.nil ?_) | (with_reducible refine Tr.ret ?_) | (with_reducible refine Tr.then_ret ?_) | (with_reducible refine Tr.in_ret ?_) | (refine Tr.cond_t rfl (by first | (with_reducible assumption) | (with_reducible rfl) | (with_reducible exact (not_not_intro rfl)) | omega) ?_))
      (refine Tr.done (by first | exact .inl rfl | exact .inr rfl) rfl (by repeat (first | exact RVs.nil | (apply RVs.cons; (exact RV.tmp rfl)))) (by first | exact Mem.le.refl _ | assumption) (by exact ⟨[_], rfl⟩) ⟨rfl, ?_⟩)
      exact ⟨CheckR.no hv fun h => by have := hfin.2 h; rw [this, hz] at hx; cases hx; exact hxz rfl, rfl⟩
  obtain ⟨r, hr⟩ := get_of_lt (xs := am) (i := i) (by omega)
  obtain ⟨hA3, rch, rat, rB, rk, rfl, hrI⟩ := ha.elem hr
  have hrcap := hrI.cap
  obtain ⟨s, hs1⟩ := get_of_lt hin
  obtain ⟨hA1, sat⟩ := hs.at hs1
  have hsr := hv.rs s (List.mem_of_getElem? hs1)
  have hsd : sup.getD i 0 = s := getD_of hs1
  by_cases hrl : r.length = need.length
  rotate_left
  · repeat (first | ((with_reducible refine Tr.step rfl ?_); (first | ((with_reducible refine Knd.move ?_); (refine Exec.stab rfl (Stab.move rfl) rfl ?_)) | ((with_reducible refine Knd.assign ?_); (refine Exec.stab rfl (Stab.assign rfl) rfl ?_)) | ((with_reducible refine Knd.load ?_); ((refine Exec.stab rfl (Stab.loadM rfl (tysOk.get rfl) rfl (by assumption)) rfl ?_))) | ((with_reducible refine Knd.len ?_); ((refine Exec.stab rfl (Stab.len rfl (tysOk.get rfl) rfl) rfl ?_))) | ((with_reducible refine Knd.binOp ?_); ((refine Exec.stab rfl (Stab.int rfl rfl rfl) rfl ?_))) | ((with_reducible refine Knd.indexAddr ?_); ((refine Exec.stab rfl (Stab.indexAddr rfl rfl (tysOk.get rfl) rfl (tysOk.get rfl) rfl (by omega) (by omega) (by first | rfl | assumption)) rfl ?_))))) | (with_reducible refine Tr.next ?_) | (with_reducible refine Tr.seq ?_) | (with_reducible refine Tr.region ?_) | (with_reducible refine Tr.nil ?_) | (with_reducible refine Tr.skip ?_) | (with_reducible refine Tr.block ?_) | (with_reducible refine Tr.ret ?_) | (with_reducible refine Tr.then_ret ?_) | (with_reducible refine Tr.in_ret ?_) | (refine Tr.cond_t rfl (by first | (with_reducible assumption) | (with_reducible rfl) | (with_reducible exact (not_not_intro rfl)) | omega) ?_))
    (refine Tr.done (by first | exact .inl rfl | exact .inr rfl) rfl (by repeat (first | exact RVs.nil | (apply RVs.cons; (exact RV.tmp rfl)))) (by first | exact Mem.le.refl _ | assumption) (by exact ⟨[_], rfl⟩) ⟨rfl, ?_⟩)
    exact ⟨CheckR.no hv fun h => hrl (h.rows r (List.mem_of_getElem? hr)), rfl⟩
  repeat (first | ((with_reducible refine Tr.step rfl ?_); (first | ((with_reducible refine Knd.move ?_); (refine Exec.stab rfl (Stab.move rfl) rfl ?_)) | ((with_reducible refine Knd.assign ?_); (refine Exec.stab rfl (Stab.assign rfl) rfl ?_)) | ((with_reducible refine Knd.load ?_); ((refine Exec.stab rfl (Stab.loadM rfl (tysOk.get rfl) rfl (by assumption)) rfl ?_))) | ((with_reducible refine Knd.len ?_); ((refine Exec.stab rfl (Stab.len rfl (tysOk.get rfl) rfl) rfl ?_))) | ((with_reducible refine Knd.binOp ?_); ((refine Exec.stab rfl (Stab.int rfl rfl rfl) rfl ?_))) | ((with_reducible refine Knd.indexAddr ?_); ((refine Exec.stab rfl (Stab.indexAddr rfl rfl (tysOk.get rfl) rfl (tysOk.get rfl) rfl (by omega) (by omega) (by first | rfl | assumption)) rfl ?_))))) | (with_reducible refine Tr.next ?_) | (with_reducible refine Tr.seq ?_) | (with_reducible refine Tr.region ?_) | (with_reducible refine Tr.nil ?_) | (with_reducible refine Tr.skip ?_) | (with_reducible refine Tr.block ?_) | (refine Tr.cond_t rfl (by first | (with_reducible assumption) | (with_reducible rfl) | (with_reducible exact (not_not_intro rfl)) | omega) ?_) | (refine Tr.cond_f rfl (by first | (with_reducible assumption) | (with_reducible rfl) | (with_reducible exact (not_not_intro rfl)) | omega) ?_))
  refine Tr.loop (α := Nat × List Int) (fun y => ⟨108, [(13, .int .i64 (y.1 : Int)), (12, .int .i64 (s - sumN y.1 (am2 am i))), (11, .int .i64 (i : Int)), (10, .slice (some ⟨cb, 0, none⟩) need.length need.length), (0, .slice A0 fits.length c0), (1, .slice A1 sup.length c1), (2, .slice A2 need.length c2), (3, .slice A3 am.length c3)], [], M, box cb 3 (intV y.2) :: ([] ++ F)⟩)
    (fun y => y.1 ≤ need.length ∧ Upto fits sup need am i y.1 y.2 ∧ sumN y.1 (am2 am i) ≤ s) (fun y => need.length - y.1) (0, col) ⟨Nat.zero_le _, hu, hsr.1⟩ (holds_sub (by refine SubFr.cons rfl ?_; refine SubFr.cons (by simp [sumN]; rfl) ?_; exact (by repeat (first | exact SubFr.nil | refine SubFr.cons rfl ?_))) (by repeat (first | exact DropL.refl | apply DropL.skip))) (fun y hy => ?_)
  clear hu hcl hcv
  obtain ⟨j, col⟩ := y
  obtain ⟨hj, hu, hpart⟩ := hy
  simp only at hj hu hpart
  dsimp only
  have hcl := hu.cl
  have hcv : (intV col).length = need.length := by simp [hcl]
  have hpos := sumN_nonneg (n := j) (f := am2 am i) (fun q hq => (hu.ok i q hin (by omega) (.inr ⟨rfl, hq⟩)).1)
  by_cases hjn : j < need.length
  rotate_left
  · have ej : j = need.length := by omega
    subst ej
    repeat (first | ((with_reducible refine Tr.step rfl ?_); (first | ((with_reducible refine Knd.move ?_); (refine Exec.stab rfl (Stab.move rfl) rfl ?_)) | ((with_reducible refine Knd.assign ?_); (refine Exec.stab rfl (Stab.assign rfl) rfl ?_)) | ((with_reducible refine Knd.len ?_); ((refine Exec.stab rfl (Stab.len rfl (tysOk.get rfl) rfl) rfl ?_))) | ((with_reducible refine Knd.binOp ?_); (first | (refine Exec.stab rfl (Stab.addi rfl rfl (by omega)) rfl ?_) | (refine Exec.stab rfl (Stab.int rfl rfl rfl) rfl ?_))))) | (with_reducible refine Tr.next ?_) | (with_reducible refine Tr.seq ?_) | (with_reducible refine Tr.region ?_) | (with_reducible refine Tr.nil ?_) | (with_reducible refine Tr.exit ?_) | (with_reducible refine Tr.then_exit ?_) | (with_reducible refine Tr.in_normal ?_) | ((with_reducible refine Tr.in_exit ?_ ?_); (exact rfl)) | (refine Tr.cond_f rfl (by first | (with_reducible assumption) | (with_reducible rfl) | (with_reducible exact (not_not_intro rfl)) | omega) ?_))
    refine Tr.again (i + 1, col) ⟨by simp only; omega, hu.row hr hrl (by omega)⟩ (by simp only; omega) (holds_sub (by repeat (first | exact SubFr.nil | refine SubFr.cons rfl ?_)) (by repeat (first | exact DropL.refl | apply DropL.skip)))
  obtain ⟨x, hx⟩ := get_of_lt (xs := r) (i := j) (by omega)
  obtain ⟨hrB, xat⟩ := hrI.at hx
  have hxa := am2_of hr hx
  obtain ⟨frow, hfr⟩ := get_of_lt (xs := fits) (i := i) (by omega)
  have hfrl := hv.rows frow (List.mem_of_getElem? hfr)
  obtain ⟨hA0, fch, fat, fB, fk, rfl, hfB⟩ := hf.elem hfr
  obtain ⟨fx, hfx⟩ := get_of_lt (xs := frow) (i := j) (by omega)
  obtain ⟨hfA, fxat⟩ := hfB.at hfx
  have hfd : (fits.getD i []).getD j false = fx := by rw [getD_of (d := []) hfr, getD_of (d := false) hfx]
  obtain ⟨cv, hcv1⟩ := get_of_lt (xs := col) (i := j) (by omega)
  have hcv2 : nthL (intV col) j = some (.int .i64 cv) := by rw [nthL_eq]; exact intV_get hcv1
  have hcr := hu.col_rng (by omega) (by omega) hjn (Nat.le_refl _)
  rw [getD_of hcv1] at hcr
  have hsu : sumN (j + 1) (am2 am i) = sumN j (am2 am i) + x := by rw [sumN, hxa]
  generalize sumN j (am2 am i) = part at hpart hpos hsu ⊢
  have hpt : ∀ h : CheckP fits sup need am, part + x ≤ s := fun h => by
    have := h.part hin hjn
    have h4 : sumN (j + 1) (am2 am i) = sumN j (am2 am i) + am2 am i j := rfl
    omega
  by_cases hx0 : x < 0
  · repeat (first | ((with_reducible refine Tr.step rfl ?_); (first | ((with_reducible refine Knd.move ?_); (refine Exec.stab rfl (Stab.move rfl) rfl ?_)) | ((with_reducible refine Knd.assign ?_); (refine Exec.stab rfl (Stab.assign rfl) rfl ?_)) | ((with_reducible refine Knd.load ?_); ((refine Exec.stab rfl (Stab.loadM rfl (tysOk.get rfl) rfl (by assumption)) rfl ?_))) | ((with_reducible refine Knd.len ?_); ((refine Exec.stab rfl (Stab.len rfl (tysOk.get rfl) rfl) rfl ?_))) | ((with_reducible refine Knd.binOp ?_); ((refine Exec.stab rfl (Stab.int rfl rfl rfl) rfl ?_))) | ((with_reducible refine Knd.pick ?_); (first | (refine Exec.stab rfl (Stab.pick_t rfl (by first | (with_reducible rfl) | (with_reducible assumption) | (with_reducible exact Bool.not_true) | (with_reducible exact Bool.not_false)) rfl) rfl ?_) | (refine Exec.stab rfl (Stab.pick_td rfl (by first | (with_reducible assumption) | (with_reducible rfl) | (with_reducible exact (not_not_intro rfl)) | omega) rfl) rfl ?_))) | ((with_reducible refine Knd.indexAddr ?_); ((refine Exec.stab rfl (Stab.indexAddr rfl rfl (tysOk.get rfl) rfl (tysOk.get rfl) rfl (by omega) (by omega) (by first | rfl | assumption)) rfl ?_))))) | (with_reducible refine Tr.next ?_) | (with_reducible refine Tr.seq ?_) | (with_reducible refine Tr.region ?_) | (with_reducible refine Tr.nil ?_) | (refine Tr.guard_s0 rfl rfl rfl (by first | (with_reducible rfl) | (with_reducible assumption) | (with_reducible exact Bool.not_true) | (with_reducible exact Bool.not_false)) rfl rfl ?_) | (refine Tr.guard_n' rfl rfl rfl (by first | (with_reducible assumption) | (with_reducible rfl) | (with_reducible exact (not_not_intro rfl)) | omega) rfl rfl ?_) | (refine Tr.guard_u rfl rfl rfl rfl rfl ?_) | (with_reducible refine Tr.skip ?_) | (with_reducible refine Tr.block ?_) | (with_reducible refine Tr.ret ?_) | (with_reducible refine Tr.then_ret ?_) | (with_reducible refine Tr.in_ret ?_) | (refine Tr.cond_bt rfl (by first | (with_reducible rfl) | (with_reducible assumption) | (with_reducible exact Bool.not_true) | (with_reducible exact Bool.not_false)) ?_) | (refine Tr.cond_t rfl (by first | (with_reducible assumption) | (with_reducible rfl) | (with_reducible exact (not_not_intro rfl)) | omega) ?_))
    (refine Tr.done (by first | exact .inl rfl | exact .inr rfl) rfl (by repeat (first | exact RVs.nil | (apply RVs.cons; (exact RV.tmp rfl)))) (by first | exact Mem.le.refl _ | assumption) (by exact ⟨[_], rfl⟩) ⟨rfl, ?_⟩)
    exact ⟨CheckR.no hv (CheckP.bad hin hjn (.inl (by omega))), rfl⟩
  by_cases hxs : s - part < x
  · repeat (first | ((with_reducible refine Tr.step rfl ?_); (first | ((with_reducible refine Knd.move ?_); (refine Exec.stab rfl (Stab.move rfl) rfl ?_)) | ((with_reducible refine Knd.assign ?_); (refine Exec.stab rfl (Stab.assign rfl) rfl ?_)) | ((with_reducible refine Knd.load ?_); ((refine Exec.stab rfl (Stab.loadM rfl (tysOk.get rfl) rfl (by assumption)) rfl ?_))) | ((with_reducible refine Knd.len ?_); ((refine Exec.stab rfl (Stab.len rfl (tysOk.get rfl) rfl) rfl ?_))) | ((with_reducible refine Knd.binOp ?_); ((refine Exec.stab rfl (Stab.int rfl rfl rfl) rfl ?_))) | ((with_reducible refine Knd.pick ?_); (first | (refine Exec.stab rfl (Stab.pick_td rfl (by first | (with_reducible assumption) | (with_reducible rfl) | (with_reducible exact (not_not_intro rfl)) | omega) rfl) rfl ?_) | (refine Exec.stab rfl (Stab.pick_fd rfl (by first | (with_reducible assumption) | (with_reducible rfl) | (with_reducible exact (not_not_intro rfl)) | omega) rfl) rfl ?_))) | ((with_reducible refine Knd.indexAddr ?_); ((refine Exec.stab rfl (Stab.indexAddr rfl rfl (tysOk.get rfl) rfl (tysOk.get rfl) rfl (by omega) (by omega) (by first | rfl | assumption)) rfl ?_))))) | (with_reducible refine Tr.next ?_) | (with_reducible refine Tr.seq ?_) | (with_reducible refine Tr.region ?_) | (with_reducible refine Tr.nil ?_) | ((refine Tr.guard_y' rfl rfl rfl (by first | (with_reducible assumption) | (with_reducible rfl) | (with_reducible exact (not_not_intro rfl)) | omega) ?_); (first | ((with_reducible refine Knd.move ?_); (refine Exec.stab rfl (Stab.move rfl) rfl ?_)) | ((with_reducible refine Knd.binOp ?_); ((refine Exec.stab rfl (Stab.int rfl rfl rfl) rfl ?_))))) | (refine Tr.guard_n' rfl rfl rfl (by first | (with_reducible assumption) | (with_reducible rfl) | (with_reducible exact (not_not_intro rfl)) | omega) rfl rfl ?_) | (refine Tr.guard_u rfl rfl rfl rfl rfl ?_) | (with_reducible refine Tr.skip ?_) | (with_reducible refine Tr.block ?_) | (with_reducible refine Tr.ret ?_) | (with_reducible refine Tr.then_ret ?_) | (with_reducible refine Tr.in_ret ?_) | (refine Tr.cond_bt rfl (by first | (with_reducible rfl) | (with_reducible assumption) | (with_reducible exact Bool.not_true) | (with_reducible exact Bool.not_false)) ?_) | (refine Tr.cond_t rfl (by first | (with_reducible assumption) | (with_reducible rfl) | (with_reducible exact (not_not_intro rfl)) | omega) ?_))
    (refine Tr.done (by first | exact .inl rfl | exact .inr rfl) rfl (by repeat (first | exact RVs.nil | (apply RVs.cons; (exact RV.tmp rfl)))) (by first | exact Mem.le.refl _ | assumption) (by exact ⟨[_], rfl⟩) ⟨rfl, ?_⟩)
    exact ⟨CheckR.no hv (fun h => by have := hpt h; omega), rfl⟩
  have hst := hu.step (j := j) hjn (by rw [hxa]; omega)
  rw [getD_of hcv1, hxa] at hst
  have hsub : s - part - x = s - (part + x) := by omega
  by_cases hxp : 0 < x
  · cases fx
    · repeat (first | ((with_reducible refine Tr.step rfl ?_); (first | ((with_reducible refine Knd.move ?_); (refine Exec.stab rfl (Stab.move rfl) rfl ?_)) | ((with_reducible refine Knd.assign ?_); (refine Exec.stab rfl (Stab.assign rfl) rfl ?_)) | ((with_reducible refine Knd.load ?_); ((refine Exec.stab rfl (Stab.loadM rfl (tysOk.get rfl) rfl (by assumption)) rfl ?_))) | ((with_reducible refine Knd.len ?_); ((refine Exec.stab rfl (Stab.len rfl (tysOk.get rfl) rfl) rfl ?_))) | ((with_reducible refine Knd.binOp ?_); ((refine Exec.stab rfl (Stab.int rfl rfl rfl) rfl ?_))) | ((with_reducible refine Knd.pick ?_); ((refine Exec.stab rfl (Stab.pick_fd rfl (by first | (with_reducible assumption) | (with_reducible rfl) | (with_reducible exact (not_not_intro rfl)) | omega) rfl) rfl ?_))) | ((with_reducible refine Knd.indexAddr ?_); ((refine Exec.stab rfl (Stab.indexAddr rfl rfl (tysOk.get rfl) rfl (tysOk.get rfl) rfl (by omega) (by omega) (by first | rfl | assumption)) rfl ?_))))) | (with_reducible refine Tr.next ?_) | (with_reducible refine Tr.seq ?_) | (with_reducible refine Tr.region ?_) | (with_reducible refine Tr.nil ?_) | ((refine Tr.guard_y rfl rfl rfl (by first | (with_reducible assumption) | (with_reducible rfl) | (with_reducible exact (not_not_intro rfl)) | omega) ?_); (first | ((with_reducible refine Knd.move ?_); (refine Exec.stab rfl (Stab.move rfl) rfl ?_)) | ((with_reducible refine Knd.load ?_); ((refine Exec.stab rfl (Stab.loadM rfl (tysOk.get rfl) rfl (by assumption)) rfl ?_))) | ((with_reducible refine Knd.unOp ?_); ((refine Exec.stab rfl (Stab.not rfl) rfl ?_))) | ((with_reducible refine Knd.indexAddr ?_); ((refine Exec.stab rfl (Stab.indexAddr rfl rfl (tysOk.get rfl) rfl (tysOk.get rfl) rfl (by omega) (by omega) (by first | rfl | assumption)) rfl ?_))))) | ((refine Tr.guard_y' rfl rfl rfl (by first | (with_reducible assumption) | (with_reducible rfl) | (with_reducible exact (not_not_intro rfl)) | omega) ?_); (first | ((with_reducible refine Knd.move ?_); (refine Exec.stab rfl (Stab.move rfl) rfl ?_)) | ((with_reducible refine Knd.binOp ?_); ((refine Exec.stab rfl (Stab.int rfl rfl rfl) rfl ?_))) | ((with_reducible refine Knd.pick ?_); ((refine Exec.stab rfl (Stab.pick_td rfl (by first | (with_reducible assumption) | (with_reducible rfl) | (with_reducible exact (not_not_intro rfl)) | omega) rfl) rfl ?_))))) | (with_reducible refine Tr.skip ?_) | (with_reducible refine Tr.block ?_) | (with_reducible refine Tr.ret ?_) | (with_reducible refine Tr.then_ret ?_) | (with_reducible refine Tr.in_ret ?_) | (refine Tr.cond_bt rfl (by first | (with_reducible rfl) | (with_reducible assumption) | (with_reducible exact Bool.not_true) | (with_reducible exact Bool.not_false)) ?_) | (refine Tr.cond_t rfl (by first | (with_reducible assumption) | (with_reducible rfl) | (with_reducible exact (not_not_intro rfl)) | omega) ?_))
      (refine Tr.done (by first | exact .inl rfl | exact .inr rfl) rfl (by repeat (first | exact RVs.nil | (apply RVs.cons; (exact RV.tmp rfl)))) (by first | exact Mem.le.refl _ | assumption) (by exact ⟨[_], rfl⟩) ⟨rfl, ?_⟩)
      exact ⟨CheckR.no hv (CheckP.bad hin hjn (.inr (.inr ⟨by omega, hfd⟩))), rfl⟩
    · repeat (first | ((with_reducible refine Tr.step rfl ?_); (first | ((with_reducible refine Knd.move ?_); (refine Exec.stab rfl (Stab.move rfl) rfl ?_)) | ((with_reducible refine Knd.assign ?_); (refine Exec.stab rfl (Stab.assign rfl) rfl ?_)) | ((with_reducible refine Knd.load ?_); (first | (refine Exec.stab rfl (Stab.load rfl (tysOk.get rfl) rfl (by repeat (first | exact Has.here | apply Has.there)) (by assumption)) rfl ?_) | (refine Exec.stab rfl (Stab.loadM rfl (tysOk.get rfl) rfl (by assumption)) rfl ?_))) | ((with_reducible refine Knd.len ?_); ((refine Exec.stab rfl (Stab.len rfl (tysOk.get rfl) rfl) rfl ?_))) | ((with_reducible refine Knd.binOp ?_); (first | (refine Exec.stab rfl (Stab.addi rfl rfl (by omega)) rfl ?_) | (refine Exec.stab rfl (Stab.subi rfl rfl (by omega)) rfl ?_) | (refine Exec.stab rfl (Stab.int rfl rfl rfl) rfl ?_))) | ((with_reducible refine Knd.pick ?_); ((refine Exec.stab rfl (Stab.pick_fd rfl (by first | (with_reducible assumption) | (with_reducible rfl) | (with_reducible exact (not_not_intro rfl)) | omega) rfl) rfl ?_))) | ((with_reducible refine Knd.store ?_); ((refine Exec.storeS rfl rfl (tysOk.get rfl) rfl (by first | rfl | assumption) (by repeat (first | exact Upd.here | apply Upd.there)) (by omega) ?_))) | ((with_reducible refine Knd.indexAddr ?_); (first | (refine Exec.stab rfl (Stab.indexB0 rfl rfl (tysOk.get rfl) rfl (tysOk.get rfl) rfl (by omega) (by omega)) rfl ?_) | (refine Exec.stab rfl (Stab.indexAddr rfl rfl (tysOk.get rfl) rfl (tysOk.get rfl) rfl (by omega) (by omega) (by first | rfl | assumption)) rfl ?_))))) | (with_reducible refine Tr.next ?_) | (with_reducible refine Tr.seq ?_) | (with_reducible refine Tr.region ?_) | (with_reducible refine Tr.nil ?_) | ((refine Tr.guard_y rfl rfl rfl (by first | (with_reducible assumption) | (with_reducible rfl) | (with_reducible exact (not_not_intro rfl)) | omega) ?_); (first | ((with_reducible refine Knd.move ?_); (refine Exec.stab rfl (Stab.move rfl) rfl ?_)) | ((with_reducible refine Knd.load ?_); ((refine Exec.stab rfl (Stab.loadM rfl (tysOk.get rfl) rfl (by assumption)) rfl ?_))) | ((with_reducible refine Knd.unOp ?_); ((refine Exec.stab rfl (Stab.not rfl) rfl ?_))) | ((with_reducible refine Knd.indexAddr ?_); ((refine Exec.stab rfl (Stab.indexAddr rfl rfl (tysOk.get rfl) rfl (tysOk.get rfl) rfl (by omega) (by omega) (by first | rfl | assumption)) rfl ?_))))) | ((refine Tr.guard_y' rfl rfl rfl (by first | (with_reducible assumption) | (with_reducible rfl) | (with_reducible exact (not_not_intro rfl)) | omega) ?_); (first | ((with_reducible refine Knd.move ?_); (refine Exec.stab rfl (Stab.move rfl) rfl ?_)) | ((with_reducible refine Knd.binOp ?_); ((refine Exec.stab rfl (Stab.int rfl rfl rfl) rfl ?_))) | ((with_reducible refine Knd.pick ?_); ((refine Exec.stab rfl (Stab.pick_td rfl (by first | (with_reducible assumption) | (with_reducible rfl) | (with_reducible exact (not_not_intro rfl)) | omega) rfl) rfl ?_))))) | (with_reducible refine Tr.skip ?_) | (with_reducible refine Tr.block ?_) | (with_reducible refine Tr.in_normal ?_) | (refine Tr.cond_bf rfl (by first | (with_reducible rfl) | (with_reducible assumption) | (with_reducible exact Bool.not_true) | (with_reducible exact Bool.not_false)) ?_) | (refine Tr.cond_t rfl (by first | (with_reducible assumption) | (with_reducible rfl) | (with_reducible exact (not_not_intro rfl)) | omega) ?_))
      rw [intV_set, hsub, ← hsu]
      refine Tr.again (j + 1, col.set j (cv + x)) ⟨by simp only; omega, hst fun _ => hfd, by simp only; omega⟩ (by simp only; omega) (holds_sub (by repeat (first | exact SubFr.nil | refine SubFr.cons rfl ?_)) (by repeat (first | exact DropL.refl | apply DropL.skip)))
  · repeat (first | ((with_reducible refine Tr.step rfl ?_); (first | ((with_reducible refine Knd.move ?_); (refine Exec.stab rfl (Stab.move rfl) rfl ?_)) | ((with_reducible refine Knd.assign ?_); (refine Exec.stab rfl (Stab.assign rfl) rfl ?_)) | ((with_reducible refine Knd.load ?_); (first | (refine Exec.stab rfl (Stab.load rfl (tysOk.get rfl) rfl (by repeat (first | exact Has.here | apply Has.there)) (by assumption)) rfl ?_) | (refine Exec.stab rfl (Stab.loadM rfl (tysOk.get rfl) rfl (by assumption)) rfl ?_))) | ((with_reducible refine Knd.len ?_); ((refine Exec.stab rfl (Stab.len rfl (tysOk.get rfl) rfl) rfl ?_))) | ((with_reducible refine Knd.binOp ?_); (first | (refine Exec.stab rfl (Stab.addi rfl rfl (by omega)) rfl ?_) | (refine Exec.stab rfl (Stab.subi rfl rfl (by omega)) rfl ?_) | (refine Exec.stab rfl (Stab.int rfl rfl rfl) rfl ?_))) | ((with_reducible refine Knd.pick ?_); ((refine Exec.stab rfl (Stab.pick_fd rfl (by first | (with_reducible assumption) | (with_reducible rfl) | (with_reducible exact (not_not_intro rfl)) | omega) rfl) rfl ?_))) | ((with_reducible refine Knd.store ?_); ((refine Exec.storeS rfl rfl (tysOk.get rfl) rfl (by first | rfl | assumption) (by repeat (first | exact Upd.here | apply Upd.there)) (by omega) ?_))) | ((with_reducible refine Knd.indexAddr ?_); (first | (refine Exec.stab rfl (Stab.indexB0 rfl rfl (tysOk.get rfl) rfl (tysOk.get rfl) rfl (by omega) (by omega)) rfl ?_) | (refine Exec.stab rfl (Stab.indexAddr rfl rfl (tysOk.get rfl) rfl (tysOk.get rfl) rfl (by omega) (by omega) (by first | rfl | assumption)) rfl ?_))))) | (with_reducible refine Tr.next ?_) | (with_reducible refine Tr.seq ?_) | (with_reducible refine Tr.region ?_) | (with_reducible refine Tr.nil ?_) | ((refine Tr.guard_y' rfl rfl rfl (by first | (with_reducible assumption) | (with_reducible rfl) | (with_reducible exact (not_not_intro rfl)) | omega) ?_); (first | ((with_reducible refine Knd.move ?_); (refine Exec.stab rfl (Stab.move rfl) rfl ?_)) | ((with_reducible refine Knd.binOp ?_); ((refine Exec.stab rfl (Stab.int rfl rfl rfl) rfl ?_))) | ((with_reducible refine Knd.pick ?_); ((refine Exec.stab rfl (Stab.pick_fd rfl (by first | (with_reducible assumption) | (with_reducible rfl) | (with_reducible exact (not_not_intro rfl)) | omega) rfl) rfl ?_))))) | (refine Tr.guard_n rfl rfl rfl (by first | (with_reducible assumption) | (with_reducible rfl) | (with_reducible exact (not_not_intro rfl)) | omega) rfl rfl ?_) | (with_reducible refine Tr.skip ?_) | (with_reducible refine Tr.block ?_) | (with_reducible refine Tr.in_normal ?_) | (refine Tr.cond_bf rfl (by first | (with_reducible rfl) | (with_reducible assumption) | (with_reducible exact Bool.not_true) | (with_reducible exact Bool.not_false)) ?_) | (refine Tr.cond_t rfl (by first | (with_reducible assumption) | (with_reducible rfl) | (with_reducible exact (not_not_intro rfl)) | omega) ?_))
    rw [intV_set, hsub, ← hsu]
    refine Tr.again (j + 1, col.set j (cv + x)) ⟨by simp only; omega, hst fun h => by omega, by simp only; omega⟩ (by simp only; omega) (holds_sub (by repeat (first | exact SubFr.nil | refine SubFr.cons rfl ?_)) (by repeat (first | exact DropL.refl | apply DropL.skip)))
end Go.Proofs.Ytmioocddmlfboaa
/-
  Matching: the contract of the reference's Cut.
  Conditions: none.
-/
namespace Go.Proofs.Ytmioocddmlfboaa
open Go Bf
attribute [local irreducible] Tr Exec Stab HasTy Go.Addr.add IntKind.wrap
set_option maxHeartbeats 8000000 in
set_option maxRecDepth 20000 in
theorem rCut_fn (M : Mem) (A0 A1 A2 A3 : Option Addr) (c0 c1 c2 c3 : Nat) (fits : List (List Bool)) (sup need l : List Int) (hf : Fits2 M (.slice A0 fits.length c0) fits) (hs : Ints M (.slice A1 sup.length c1) sup) (hn : Ints M (.slice A2 need.length c2) need) (hl : Ints M (.slice A3 l.length c3) l) :
    Fn0 Try.prog 14 [.slice A0 fits.length c0, .slice A1 sup.length c1, .slice A2 need.length c2, .slice A3 l.length c3] M (fun r M' => CutR fits sup need l r ∧ M = M') := by
  have la := hl.len_le
  refine Fn.intro Try.func14 rfl rfl Try.ntmps14 rfl fun E F => ?_
  repeat (first | ((with_reducible refine Tr.step rfl ?_); (first | ((with_reducible refine Knd.move ?_); (refine Exec.stab rfl (Stab.move rfl) rfl ?_)) | ((with_reducible refine Knd.assign ?_); (refine Exec.stab rfl (Stab.assign rfl) rfl ?_)))) | (with_reducible refine Tr.next ?_) | (with_reducible refine Tr.seq ?_) | (with_reducible refine Tr.region ?_) | (with_reducible refine Tr.nil ?_))
  ((refine Tr.step rfl ?_)); refine Exec.call0 rfl (rValid_fn M A0 A1 A2 c0 c1 c2 fits sup need hf hs hn) rfl ?_
  rintro _ _ _ ⟨rfl, rfl⟩
  cases hvv : validF fits sup need
  · repeat (first | ((with_reducible refine Tr.step rfl ?_); (first | ((with_reducible refine Knd.assign ?_); (refine Exec.stab rfl (Stab.assign rfl) rfl ?_)) | ((with_reducible refine Knd.unOp ?_); ((refine Exec.stab rfl (Stab.not rfl) rfl ?_))))) | (with_reducible refine Tr.next ?_) | (with_reducible refine Tr.seq ?_) | (with_reducible refine Tr.region ?_) | (with_reducible refine Tr.nil ?_) | (with_reducible refine Tr.ret ?_) | (with_reducible refine Tr.then_ret ?_) | (refine Tr.cond_bt rfl (by first | (with_reducible rfl) | (with_reducible assumption) | (with_reducible exact Bool.not_true) | (with_reducible exact Bool.not_false)) ?_))
    (refine Tr.done (by first | exact .inl rfl | exact .inr rfl) rfl (by repeat (first | exact RVs.nil | (apply RVs.cons; (exact RV.tmp rfl)))) (by first | exact Mem.le.refl _ | assumption) (by exact ⟨[], rfl⟩) ⟨rfl, ?_⟩)
    exact ⟨.inl ⟨hvv, rfl⟩, rfl⟩
  have hv := vld_iff.1 hvv
  have l1 := hv.ls
  have l2 := hv.ln
  have l3 := hv.lf
  repeat (first | ((with_reducible refine Tr.step rfl ?_); (first | ((with_reducible refine Knd.assign ?_); (refine Exec.stab rfl (Stab.assign rfl) rfl ?_)) | ((with_reducible refine Knd.unOp ?_); ((refine Exec.stab rfl (Stab.not rfl) rfl ?_))))) | (with_reducible refine Tr.next ?_) | (with_reducible refine Tr.seq ?_) | (with_reducible refine Tr.region ?_) | (with_reducible refine Tr.nil ?_) | (with_reducible refine Tr.skip ?_) | (with_reducible refine Tr.block ?_) | (refine Tr.cond_bf rfl (by first | (with_reducible rfl) | (with_reducible assumption) | (with_reducible exact Bool.not_true) | (with_reducible exact Bool.not_false)) ?_))
  refine Tr.loop (α := Nat) (fun y => ⟨99, [(11, .int .i64 (y : Int)), (10, .int .i64 (cutNeed need (l.take y))), (0, .slice A0 fits.length c0), (1, .slice A1 sup.length c1), (2, .slice A2 need.length c2), (3, .slice A3 l.length c3)], [], M, [] ++ F⟩)
    (fun y => y ≤ l.length ∧ AscTo need.length l y) (fun y => l.length - y) 0 ⟨Nat.zero_le _, fun _ _ h => by omega⟩ (holds_sub (by repeat (first | exact SubFr.nil | refine SubFr.cons rfl ?_)) (by repeat (first | exact DropL.refl | apply DropL.skip))) (fun i hy => ?_)
  obtain ⟨hi, hasc⟩ := hy
  have hcnt := hasc.count hi
  have hcn := cutNeed_rng hv.rn (l.take i)
  have htl : (l.take i).length = i := by simp; omega
  rw [htl] at hcn
  by_cases hil : i < l.length
  · obtain ⟨x, hx⟩ := get_of_lt hil
    obtain ⟨hA, hat⟩ := hl.at hx
    by_cases hx0 : x < 0
    · repeat (first | ((with_reducible refine Tr.step rfl ?_); (first | ((with_reducible refine Knd.move ?_); (refine Exec.stab rfl (Stab.move rfl) rfl ?_)) | ((with_reducible refine Knd.len ?_); ((refine Exec.stab rfl (Stab.len rfl (tysOk.get rfl) rfl) rfl ?_))) | ((with_reducible refine Knd.binOp ?_); ((refine Exec.stab rfl (Stab.int rfl rfl rfl) rfl ?_))))) | (with_reducible refine Tr.next ?_) | (with_reducible refine Tr.seq ?_) | (with_reducible refine Tr.region ?_) | (with_reducible refine Tr.nil ?_) | (with_reducible refine Tr.skip ?_) | (with_reducible refine Tr.block ?_) | (refine Tr.cond_t rfl (by first | (with_reducible assumption) | (with_reducible rfl) | (with_reducible exact (not_not_intro rfl)) | omega) ?_))
      (((apply Tr.draw); (kernel_rfl)); (refine TrA.take 0 (by kernel_rfl) rfl (by kernel_rfl) (by first | exact fun _ _ _ h => h | exact fun _ _ _ h => nomatch h.1) (by exact fun _ h => h) rfl (by first | exact Stab.move rfl) rfl rfl ?_); (refine TrA.take 1 (by kernel_rfl) rfl (by kernel_rfl) (by first | exact fun _ _ _ h => h | exact fun _ _ _ h => nomatch h.1) (by exact fun _ h => h) rfl (by first | exact Stab.move rfl) rfl rfl ?_); (refine TrA.take 2 (by kernel_rfl) rfl (by kernel_rfl) (by first | exact fun _ _ _ h => h | exact fun _ _ _ h => nomatch h.1) (by exact fun _ h => h) rfl (by exact Stab.indexAddr rfl rfl (tysOk.get rfl) rfl (tysOk.get rfl) rfl (by omega) (by omega) (by first | rfl | assumption)) rfl rfl ?_); (refine TrA.take 3 (by kernel_rfl) rfl (by kernel_rfl) (by first | exact fun _ _ _ h => h | exact fun _ _ _ h => nomatch h.1) (by exact fun _ h => h) rfl (by exact Stab.loadM rfl (tysOk.get rfl) rfl (by assumption)) rfl rfl ?_); (refine TrA.take 4 (by kernel_rfl) rfl (by kernel_rfl) (by first | exact fun _ _ _ h => h | exact fun _ _ _ h => nomatch h.1) (by exact fun _ h => h) rfl (by exact Stab.int rfl rfl rfl) rfl rfl ?_); (refine TrA.take 5 (by kernel_rfl) rfl (by kernel_rfl) (by first | exact fun _ _ _ h => h | exact fun _ _ _ h => nomatch h.1) (by exact fun _ h => h) rfl (by first | exact Stab.move rfl) rfl rfl ?_); ((refine TrA.takeu 6 (by kernel_rfl) rfl (by kernel_rfl) (by first | exact fun _ _ _ h => h | exact fun _ _ _ h => nomatch h.1) (by exact fun _ h => h) rfl rfl rfl (by first | rfl | (simp; done) | (simp; omega)) rfl rfl ?_)); ((refine TrA.takeu 7 (by kernel_rfl) rfl (by kernel_rfl) (by first | exact fun _ _ _ h => h | exact fun _ _ _ h => nomatch h.1) (by exact fun _ h => h) rfl rfl rfl (by first | rfl | (simp; done) | (simp; omega)) rfl rfl ?_)); ((refine TrA.takeu 10 (by kernel_rfl) rfl (by kernel_rfl) (by first | exact fun _ _ _ h => h | exact fun _ _ _ h => nomatch h.1) (by exact fun _ h => h) rfl rfl rfl (by first | rfl | (simp; done) | (simp; omega)) rfl rfl ?_)); ((refine TrA.takeu 8 (by kernel_rfl) rfl (by kernel_rfl) (by first | exact fun _ _ _ h => h | exact fun _ _ _ h => nomatch h.1) (by exact fun _ h => h) rfl rfl rfl (by first | rfl | (simp; done) | (simp; omega)) rfl rfl ?_)); ((refine TrA.takeu 11 (by kernel_rfl) rfl (by kernel_rfl) (by first | exact fun _ _ _ h => h | exact fun _ _ _ h => nomatch h.1) (by exact fun _ h => h) rfl rfl rfl (by first | rfl | (simp; done) | (simp; omega)) rfl rfl ?_)); ((refine TrA.takeu 9 (by kernel_rfl) rfl (by kernel_rfl) (by first | exact fun _ _ _ h => h | exact fun _ _ _ h => nomatch h.1) (by exact fun _ h => h) rfl rfl rfl (by first | rfl | (simp; done) | (simp; omega)) rfl rfl ?_)); ((refine TrA.takeu 12 (by kernel_rfl) rfl (by kernel_rfl) (by first | exact fun _ _ _ h => h | exact fun _ _ _ h => nomatch h.1) (by exact fun _ h => h) rfl rfl rfl (by first | rfl | (simp; done) | (simp; omega)) rfl rfl ?_)); (refine TrA.take 13 (by kernel_rfl) rfl (by kernel_rfl) (by first | exact fun _ _ _ h => h | exact fun _ _ _ h => nomatch h.1) (by exact fun _ h => h) rfl (by exact Stab.pick_td rfl (by first | (with_reducible assumption) | (with_reducible rfl) | (with_reducible exact (not_not_intro rfl)) | omega) rfl) rfl rfl ?_); (refine TrA.take 14 (by kernel_rfl) rfl (by kernel_rfl) (by first | exact fun _ _ _ h => h | exact fun _ _ _ h => nomatch h.1) (by exact fun _ h => h) rfl (by first | exact Stab.move rfl) rfl rfl ?_); ((refine TrA.takeu 15 (by kernel_rfl) rfl (by kernel_rfl) (by first | exact fun _ _ _ h => h | exact fun _ _ _ h => nomatch h.1) (by exact fun _ h => h) rfl rfl rfl (by first | rfl | (simp; done) | (simp; omega)) rfl rfl ?_)); ((refine TrA.takeu 16 (by kernel_rfl) rfl (by kernel_rfl) (by first | exact fun _ _ _ h => h | exact fun _ _ _ h => nomatch h.1) (by exact fun _ h => h) rfl rfl rfl (by first | rfl | (simp; done) | (simp; omega)) rfl rfl ?_)); ((refine TrA.takeu 17 (by kernel_rfl) rfl (by kernel_rfl) (by first | exact fun _ _ _ h => h | exact fun _ _ _ h => nomatch h.1) (by exact fun _ h => h) rfl rfl rfl (by first | rfl | (simp; done) | (simp; omega)) rfl rfl ?_)); ((refine TrA.takew 18 (by kernel_rfl) rfl (by kernel_rfl) (by first | exact fun _ _ _ h => h | exact fun _ _ _ h => nomatch h.1) (by exact fun _ h => h) rfl rfl rfl rfl rfl ?_)); ((refine TrA.takew 19 (by kernel_rfl) rfl (by kernel_rfl) (by first | exact fun _ _ _ h => h | exact fun _ _ _ h => nomatch h.1) (by exact fun _ h => h) rfl rfl rfl rfl rfl ?_)); ((refine TrA.takew 23 (by kernel_rfl) rfl (by kernel_rfl) (by first | exact fun _ _ _ h => h | exact fun _ _ _ h => nomatch h.1) (by exact fun _ h => h) rfl rfl rfl rfl rfl ?_)); ((refine TrA.takew 24 (by kernel_rfl) rfl (by kernel_rfl) (by first | exact fun _ _ _ h => h | exact fun _ _ _ h => nomatch h.1) (by exact fun _ h => h) rfl rfl rfl rfl rfl ?_)); ((refine TrA.takew 20 (by kernel_rfl) rfl (by kernel_rfl) (by first | exact fun _ _ _ h => h | exact fun _ _ _ h => nomatch h.1) (by exact fun _ h => h) rfl rfl rfl rfl rfl ?_)); ((refine TrA.takew 25 (by kernel_rfl) rfl (by kernel_rfl) (by first | exact fun _ _ _ h => h | exact fun _ _ _ h => nomatch h.1) (by exact fun _ h => h) rfl rfl rfl rfl rfl ?_)); ((refine TrA.takew 21 (by kernel_rfl) rfl (by kernel_rfl) (by first | exact fun _ _ _ h => h | exact fun _ _ _ h => nomatch h.1) (by exact fun _ h => h) rfl rfl rfl rfl rfl ?_)); ((refine TrA.takew 26 (by kernel_rfl) rfl (by kernel_rfl) (by first | exact fun _ _ _ h => h | exact fun _ _ _ h => nomatch h.1) (by exact fun _ h => h) rfl rfl rfl rfl rfl ?_)); ((refine TrA.takew 22 (by kernel_rfl) rfl (by kernel_rfl) (by first | exact fun _ _ _ h => h | exact fun _ _ _ h => nomatch h.1) (by exact fun _ h => h) rfl rfl rfl rfl rfl ?_)); ((refine TrA.takew 27 (by kernel_rfl) rfl (by kernel_rfl) (by first | exact fun _ _ _ h => h | exact fun _ _ _ h => nomatch h.1) (by exact fun _ h => h) rfl rfl rfl rfl rfl ?_)); ((refine TrA.takeu 28 (by kernel_rfl) rfl (by kernel_rfl) (by first | exact fun _ _ _ h => h | exact fun _ _ _ h => nomatch h.1) (by exact fun _ h => h) rfl rfl rfl (by first | rfl | (simp; done) | (simp; omega)) rfl rfl ?_)); (refine TrA.take 29 (by kernel_rfl) rfl (by kernel_rfl) (by first | exact fun _ _ _ h => h | exact fun _ _ _ h => nomatch h.1) (by exact fun _ h => h) rfl (by exact Stab.pick_t rfl (by first | (with_reducible rfl) | (with_reducible assumption) | (with_reducible exact Bool.not_true) | (with_reducible exact Bool.not_false)) rfl) rfl rfl ?_); (refine TrA.done (by kernel_rfl) ?_))
      repeat (first | ((with_reducible refine Tr.step rfl ?_); (((with_reducible refine Knd.assign ?_); (refine Exec.stab rfl (Stab.assign rfl) rfl ?_)))) | (with_reducible refine Tr.next ?_) | (with_reducible refine Tr.seq ?_) | (with_reducible refine Tr.region ?_) | (with_reducible refine Tr.nil ?_) | (with_reducible refine Tr.ret ?_) | (with_reducible refine Tr.then_ret ?_) | (with_reducible refine Tr.in_ret ?_) | (refine Tr.cond_bt rfl (by first | (with_reducible rfl) | (with_reducible assumption) | (with_reducible exact Bool.not_true) | (with_reducible exact Bool.not_false)) ?_))
      (refine Tr.done (by first | exact .inl rfl | exact .inr rfl) rfl (by repeat (first | exact RVs.nil | (apply RVs.cons; (exact RV.tmp rfl)))) (by first | exact Mem.le.refl _ | assumption) (by exact ⟨[], rfl⟩) ⟨rfl, ?_⟩)
      exact ⟨CutR.no hv fun h => by have := h i x hil hx; omega, rfl⟩
    by_cases hxm : need.length ≤ x
    · repeat (first | ((with_reducible refine Tr.step rfl ?_); (first | ((with_reducible refine Knd.move ?_); (refine Exec.stab rfl (Stab.move rfl) rfl ?_)) | ((with_reducible refine Knd.len ?_); ((refine Exec.stab rfl (Stab.len rfl (tysOk.get rfl) rfl) rfl ?_))) | ((with_reducible refine Knd.binOp ?_); ((refine Exec.stab rfl (Stab.int rfl rfl rfl) rfl ?_))))) | (with_reducible refine Tr.next ?_) | (with_reducible refine Tr.seq ?_) | (with_reducible refine Tr.region ?_) | (with_reducible refine Tr.nil ?_) | (with_reducible refine Tr.skip ?_) | (with_reducible refine Tr.block ?_) | (refine Tr.cond_t rfl (by first | (with_reducible assumption) | (with_reducible rfl) | (with_reducible exact (not_not_intro rfl)) | omega) ?_))
      (((apply Tr.draw); (kernel_rfl)); (refine TrA.take 0 (by kernel_rfl) rfl (by kernel_rfl) (by first | exact fun _ _ _ h => h | exact fun _ _ _ h => nomatch h.1) (by exact fun _ h => h) rfl (by first | exact Stab.move rfl) rfl rfl ?_); (refine TrA.take 1 (by kernel_rfl) rfl (by kernel_rfl) (by first | exact fun _ _ _ h => h | exact fun _ _ _ h => nomatch h.1) (by exact fun _ h => h) rfl (by first | exact Stab.move rfl) rfl rfl ?_); (refine TrA.take 2 (by kernel_rfl) rfl (by kernel_rfl) (by first | exact fun _ _ _ h => h | exact fun _ _ _ h => nomatch h.1) (by exact fun _ h => h) rfl (by exact Stab.indexAddr rfl rfl (tysOk.get rfl) rfl (tysOk.get rfl) rfl (by omega) (by omega) (by first | rfl | assumption)) rfl rfl ?_); (refine TrA.take 3 (by kernel_rfl) rfl (by kernel_rfl) (by first | exact fun _ _ _ h => h | exact fun _ _ _ h => nomatch h.1) (by exact fun _ h => h) rfl (by exact Stab.loadM rfl (tysOk.get rfl) rfl (by assumption)) rfl rfl ?_); (refine TrA.take 4 (by kernel_rfl) rfl (by kernel_rfl) (by first | exact fun _ _ _ h => h | exact fun _ _ _ h => nomatch h.1) (by exact fun _ h => h) rfl (by exact Stab.int rfl rfl rfl) rfl rfl ?_); (refine TrA.take 5 (by kernel_rfl) rfl (by kernel_rfl) (by first | exact fun _ _ _ h => h | exact fun _ _ _ h => nomatch h.1) (by exact fun _ h => h) rfl (by first | exact Stab.move rfl) rfl rfl ?_); ((refine TrA.takeg 6 (by kernel_rfl) rfl (by kernel_rfl) (by first | exact fun _ _ _ h => h | exact fun _ _ _ h => nomatch h.1) (by exact fun _ h => h) rfl rfl rfl (decide_eq_false (by first | (with_reducible assumption) | (with_reducible rfl) | (with_reducible exact (not_not_intro rfl)) | omega)) (by first | exact Stab.move rfl) rfl rfl ?_)); ((refine TrA.takeg 7 (by kernel_rfl) rfl (by kernel_rfl) (by first | exact fun _ _ _ h => h | exact fun _ _ _ h => nomatch h.1) (by exact fun _ h => h) rfl rfl rfl (decide_eq_false (by first | (with_reducible assumption) | (with_reducible rfl) | (with_reducible exact (not_not_intro rfl)) | omega)) (by first | exact Stab.move rfl) rfl rfl ?_)); ((refine TrA.takeg 10 (by kernel_rfl) rfl (by kernel_rfl) (by first | exact fun _ _ _ h => h | exact fun _ _ _ h => nomatch h.1) (by exact fun _ h => h) rfl rfl rfl (decide_eq_false (by first | (with_reducible assumption) | (with_reducible rfl) | (with_reducible exact (not_not_intro rfl)) | omega)) (by first | exact Stab.move rfl) rfl rfl ?_)); ((refine TrA.takeg 8 (by kernel_rfl) rfl (by kernel_rfl) (by first | exact fun _ _ _ h => h | exact fun _ _ _ h => nomatch h.1) (by exact fun _ h => h) rfl rfl rfl (decide_eq_false (by first | (with_reducible assumption) | (with_reducible rfl) | (with_reducible exact (not_not_intro rfl)) | omega)) (by exact Stab.indexAddr rfl rfl (tysOk.get rfl) rfl (tysOk.get rfl) rfl (by omega) (by omega) (by first | rfl | assumption)) rfl rfl ?_)); ((refine TrA.takeg 11 (by kernel_rfl) rfl (by kernel_rfl) (by first | exact fun _ _ _ h => h | exact fun _ _ _ h => nomatch h.1) (by exact fun _ h => h) rfl rfl rfl (decide_eq_false (by first | (with_reducible assumption) | (with_reducible rfl) | (with_reducible exact (not_not_intro rfl)) | omega)) (by first | exact Stab.len rfl (tysOk.get rfl) rfl | exact Stab.lensL rfl (tysOk.get rfl) rfl | exact Stab.lens rfl (tysOk.get rfl) rfl) rfl rfl ?_)); ((refine TrA.takeg 9 (by kernel_rfl) rfl (by kernel_rfl) (by first | exact fun _ _ _ h => h | exact fun _ _ _ h => nomatch h.1) (by exact fun _ h => h) rfl rfl rfl (decide_eq_false (by first | (with_reducible assumption) | (with_reducible rfl) | (with_reducible exact (not_not_intro rfl)) | omega)) (by exact Stab.loadM rfl (tysOk.get rfl) rfl (by assumption)) rfl rfl ?_)); ((refine TrA.takeg 12 (by kernel_rfl) rfl (by kernel_rfl) (by first | exact fun _ _ _ h => h | exact fun _ _ _ h => nomatch h.1) (by exact fun _ h => h) rfl rfl rfl (decide_eq_false (by first | (with_reducible assumption) | (with_reducible rfl) | (with_reducible exact (not_not_intro rfl)) | omega)) (by exact Stab.int rfl rfl rfl) rfl rfl ?_)); (refine TrA.take 13 (by kernel_rfl) rfl (by kernel_rfl) (by first | exact fun _ _ _ h => h | exact fun _ _ _ h => nomatch h.1) (by exact fun _ h => h) rfl (by exact Stab.pick_fd rfl (by first | (with_reducible assumption) | (with_reducible rfl) | (with_reducible exact (not_not_intro rfl)) | omega) rfl) rfl rfl ?_); (refine TrA.take 14 (by kernel_rfl) rfl (by kernel_rfl) (by first | exact fun _ _ _ h => h | exact fun _ _ _ h => nomatch h.1) (by exact fun _ h => h) rfl (by first | exact Stab.move rfl) rfl rfl ?_); ((refine TrA.takeu 15 (by kernel_rfl) rfl (by kernel_rfl) (by first | exact fun _ _ _ h => h | exact fun _ _ _ h => nomatch h.1) (by exact fun _ h => h) rfl rfl rfl (by first | rfl | (simp; done) | (simp; omega)) rfl rfl ?_)); ((refine TrA.takeu 16 (by kernel_rfl) rfl (by kernel_rfl) (by first | exact fun _ _ _ h => h | exact fun _ _ _ h => nomatch h.1) (by exact fun _ h => h) rfl rfl rfl (by first | rfl | (simp; done) | (simp; omega)) rfl rfl ?_)); ((refine TrA.takeu 17 (by kernel_rfl) rfl (by kernel_rfl) (by first | exact fun _ _ _ h => h | exact fun _ _ _ h => nomatch h.1) (by exact fun _ h => h) rfl rfl rfl (by first | rfl | (simp; done) | (simp; omega)) rfl rfl ?_)); ((refine TrA.takew 18 (by kernel_rfl) rfl (by kernel_rfl) (by first | exact fun _ _ _ h => h | exact fun _ _ _ h => nomatch h.1) (by exact fun _ h => h) rfl rfl rfl rfl rfl ?_)); ((refine TrA.takew 19 (by kernel_rfl) rfl (by kernel_rfl) (by first | exact fun _ _ _ h => h | exact fun _ _ _ h => nomatch h.1) (by exact fun _ h => h) rfl rfl rfl rfl rfl ?_)); ((refine TrA.takew 23 (by kernel_rfl) rfl (by kernel_rfl) (by first | exact fun _ _ _ h => h | exact fun _ _ _ h => nomatch h.1) (by exact fun _ h => h) rfl rfl rfl rfl rfl ?_)); ((refine TrA.takew 24 (by kernel_rfl) rfl (by kernel_rfl) (by first | exact fun _ _ _ h => h | exact fun _ _ _ h => nomatch h.1) (by exact fun _ h => h) rfl rfl rfl rfl rfl ?_)); ((refine TrA.takew 20 (by kernel_rfl) rfl (by kernel_rfl) (by first | exact fun _ _ _ h => h | exact fun _ _ _ h => nomatch h.1) (by exact fun _ h => h) rfl rfl rfl rfl rfl ?_)); ((refine TrA.takew 25 (by kernel_rfl) rfl (by kernel_rfl) (by first | exact fun _ _ _ h => h | exact fun _ _ _ h => nomatch h.1) (by exact fun _ h => h) rfl rfl rfl rfl rfl ?_)); ((refine TrA.takew 21 (by kernel_rfl) rfl (by kernel_rfl) (by first | exact fun _ _ _ h => h | exact fun _ _ _ h => nomatch h.1) (by exact fun _ h => h) rfl rfl rfl rfl rfl ?_)); ((refine TrA.takew 26 (by kernel_rfl) rfl (by kernel_rfl) (by first | exact fun _ _ _ h => h | exact fun _ _ _ h => nomatch h.1) (by exact fun _ h => h) rfl rfl rfl rfl rfl ?_)); ((refine TrA.takew 22 (by kernel_rfl) rfl (by kernel_rfl) (by first | exact fun _ _ _ h => h | exact fun _ _ _ h => nomatch h.1) (by exact fun _ h => h) rfl rfl rfl rfl rfl ?_)); ((refine TrA.takew 27 (by kernel_rfl) rfl (by kernel_rfl) (by first | exact fun _ _ _ h => h | exact fun _ _ _ h => nomatch h.1) (by exact fun _ h => h) rfl rfl rfl rfl rfl ?_)); ((refine TrA.takeu 28 (by kernel_rfl) rfl (by kernel_rfl) (by first | exact fun _ _ _ h => h | exact fun _ _ _ h => nomatch h.1) (by exact fun _ h => h) rfl rfl rfl (by first | rfl | (simp; done) | (simp; omega)) rfl rfl ?_)); (refine TrA.take 29 (by kernel_rfl) rfl (by kernel_rfl) (by first | exact fun _ _ _ h => h | exact fun _ _ _ h => nomatch h.1) (by exact fun _ h => h) rfl (by exact Stab.pick_td rfl (by first | (with_reducible assumption) | (with_reducible rfl) | (with_reducible exact (not_not_intro rfl)) | omega) rfl) rfl rfl ?_); (refine TrA.done (by kernel_rfl) ?_))
      repeat (first | ((with_reducible refine Tr.step rfl ?_); (((with_reducible refine Knd.assign ?_); (refine Exec.stab rfl (Stab.assign rfl) rfl ?_)))) | (with_reducible refine Tr.next ?_) | (with_reducible refine Tr.seq ?_) | (with_reducible refine Tr.region ?_) | (with_reducible refine Tr.nil ?_) | (with_reducible refine Tr.ret ?_) | (with_reducible refine Tr.then_ret ?_) | (with_reducible refine Tr.in_ret ?_) | (refine Tr.cond_bt rfl (by first | (with_reducible rfl) | (with_reducible assumption) | (with_reducible exact Bool.not_true) | (with_reducible exact Bool.not_false)) ?_))
      (refine Tr.done (by first | exact .inl rfl | exact .inr rfl) rfl (by repeat (first | exact RVs.nil | (apply RVs.cons; (exact RV.tmp rfl)))) (by first | exact Mem.le.refl _ | assumption) (by exact ⟨[], rfl⟩) ⟨rfl, ?_⟩)
      exact ⟨CutR.no hv fun h => by have := h i x hil hx; omega, rfl⟩
    obtain ⟨n, rfl⟩ : ∃ n : Nat, x = (n : Int) := ⟨x.toNat, by omega⟩
    obtain ⟨v, hv1⟩ := get_of_lt (xs := need) (i := n) (by omega)
    obtain ⟨hA2, nat2⟩ := hn.at hv1
    have hvr := hv.rn v (List.mem_of_getElem? hv1)
    have hsu := cutNeed_succ (need := need) hx
    rw [Int.toNat_natCast, getD_of hv1] at hsu
    rcases i with _ | i
    · repeat (first | ((with_reducible refine Tr.step rfl ?_); (first | ((with_reducible refine Knd.move ?_); (refine Exec.stab rfl (Stab.move rfl) rfl ?_)) | ((with_reducible refine Knd.len ?_); ((refine Exec.stab rfl (Stab.len rfl (tysOk.get rfl) rfl) rfl ?_))) | ((with_reducible refine Knd.binOp ?_); ((refine Exec.stab rfl (Stab.int rfl rfl rfl) rfl ?_))))) | (with_reducible refine Tr.next ?_) | (with_reducible refine Tr.seq ?_) | (with_reducible refine Tr.region ?_) | (with_reducible refine Tr.nil ?_) | (with_reducible refine Tr.skip ?_) | (with_reducible refine Tr.block ?_) | (refine Tr.cond_t rfl (by first | (with_reducible assumption) | (with_reducible rfl) | (with_reducible exact (not_not_intro rfl)) | omega) ?_))
      (((apply Tr.draw); (kernel_rfl)); (refine TrA.take 0 (by kernel_rfl) rfl (by kernel_rfl) (by first | exact fun _ _ _ h => h | exact fun _ _ _ h => nomatch h.1) (by exact fun _ h => h) rfl (by first | exact Stab.move rfl) rfl rfl ?_); (refine TrA.take 1 (by kernel_rfl) rfl (by kernel_rfl) (by first | exact fun _ _ _ h => h | exact fun _ _ _ h => nomatch h.1) (by exact fun _ h => h) rfl (by first | exact Stab.move rfl) rfl rfl ?_); (refine TrA.take 2 (by kernel_rfl) rfl (by kernel_rfl) (by first | exact fun _ _ _ h => h | exact fun _ _ _ h => nomatch h.1) (by exact fun _ h => h) rfl (by exact Stab.indexAddr rfl rfl (tysOk.get rfl) rfl (tysOk.get rfl) rfl (by omega) (by omega) (by first | rfl | assumption)) rfl rfl ?_); (refine TrA.take 3 (by kernel_rfl) rfl (by kernel_rfl) (by first | exact fun _ _ _ h => h | exact fun _ _ _ h => nomatch h.1) (by exact fun _ h => h) rfl (by exact Stab.loadM rfl (tysOk.get rfl) rfl (by assumption)) rfl rfl ?_); (refine TrA.take 4 (by kernel_rfl) rfl (by kernel_rfl) (by first | exact fun _ _ _ h => h | exact fun _ _ _ h => nomatch h.1) (by exact fun _ h => h) rfl (by exact Stab.int rfl rfl rfl) rfl rfl ?_); (refine TrA.take 5 (by kernel_rfl) rfl (by kernel_rfl) (by first | exact fun _ _ _ h => h | exact fun _ _ _ h => nomatch h.1) (by exact fun _ h => h) rfl (by first | exact Stab.move rfl) rfl rfl ?_); ((refine TrA.takeg 6 (by kernel_rfl) rfl (by kernel_rfl) (by first | exact fun _ _ _ h => h | exact fun _ _ _ h => nomatch h.1) (by exact fun _ h => h) rfl rfl rfl (decide_eq_false (by first | (with_reducible assumption) | (with_reducible rfl) | (with_reducible exact (not_not_intro rfl)) | omega)) (by first | exact Stab.move rfl) rfl rfl ?_)); ((refine TrA.takeg 7 (by kernel_rfl) rfl (by kernel_rfl) (by first | exact fun _ _ _ h => h | exact fun _ _ _ h => nomatch h.1) (by exact fun _ h => h) rfl rfl rfl (decide_eq_false (by first | (with_reducible assumption) | (with_reducible rfl) | (with_reducible exact (not_not_intro rfl)) | omega)) (by first | exact Stab.move rfl) rfl rfl ?_)); ((refine TrA.takeg 10 (by kernel_rfl) rfl (by kernel_rfl) (by first | exact fun _ _ _ h => h | exact fun _ _ _ h => nomatch h.1) (by exact fun _ h => h) rfl rfl rfl (decide_eq_false (by first | (with_reducible assumption) | (with_reducible rfl) | (with_reducible exact (not_not_intro rfl)) | omega)) (by first | exact Stab.move rfl) rfl rfl ?_)); ((refine TrA.takeg 8 (by kernel_rfl) rfl (by kernel_rfl) (by first | exact fun _ _ _ h => h | exact fun _ _ _ h => nomatch h.1) (by exact fun _ h => h) rfl rfl rfl (decide_eq_false (by first | (with_reducible assumption) | (with_reducible rfl) | (with_reducible exact (not_not_intro rfl)) | omega)) (by exact Stab.indexAddr rfl rfl (tysOk.get rfl) rfl (tysOk.get rfl) rfl (by omega) (by omega) (by first | rfl | assumption)) rfl rfl ?_)); ((refine TrA.takeg 11 (by kernel_rfl) rfl (by kernel_rfl) (by first | exact fun _ _ _ h => h | exact fun _ _ _ h => nomatch h.1) (by exact fun _ h => h) rfl rfl rfl (decide_eq_false (by first | (with_reducible assumption) | (with_reducible rfl) | (with_reducible exact (not_not_intro rfl)) | omega)) (by first | exact Stab.len rfl (tysOk.get rfl) rfl | exact Stab.lensL rfl (tysOk.get rfl) rfl | exact Stab.lens rfl (tysOk.get rfl) rfl) rfl rfl ?_)); ((refine TrA.takeg 9 (by kernel_rfl) rfl (by kernel_rfl) (by first | exact fun _ _ _ h => h | exact fun _ _ _ h => nomatch h.1) (by exact fun _ h => h) rfl rfl rfl (decide_eq_false (by first | (with_reducible assumption) | (with_reducible rfl) | (with_reducible exact (not_not_intro rfl)) | omega)) (by exact Stab.loadM rfl (tysOk.get rfl) rfl (by assumption)) rfl rfl ?_)); ((refine TrA.takeg 12 (by kernel_rfl) rfl (by kernel_rfl) (by first | exact fun _ _ _ h => h | exact fun _ _ _ h => nomatch h.1) (by exact fun _ h => h) rfl rfl rfl (decide_eq_false (by first | (with_reducible assumption) | (with_reducible rfl) | (with_reducible exact (not_not_intro rfl)) | omega)) (by exact Stab.int rfl rfl rfl) rfl rfl ?_)); (refine TrA.take 13 (by kernel_rfl) rfl (by kernel_rfl) (by first | exact fun _ _ _ h => h | exact fun _ _ _ h => nomatch h.1) (by exact fun _ h => h) rfl (by exact Stab.pick_fd rfl (by first | (with_reducible assumption) | (with_reducible rfl) | (with_reducible exact (not_not_intro rfl)) | omega) rfl) rfl rfl ?_); (refine TrA.take 14 (by kernel_rfl) rfl (by kernel_rfl) (by first | exact fun _ _ _ h => h | exact fun _ _ _ h => nomatch h.1) (by exact fun _ h => h) rfl (by first | exact Stab.move rfl) rfl rfl ?_); ((refine TrA.takeg 15 (by kernel_rfl) rfl (by kernel_rfl) (by first | exact fun _ _ _ h => h | exact fun _ _ _ h => nomatch h.1) (by exact fun _ h => h) rfl rfl rfl (decide_eq_false (by first | (with_reducible assumption) | (with_reducible rfl) | (with_reducible exact (not_not_intro rfl)) | omega)) (by first | exact Stab.move rfl) rfl rfl ?_)); ((refine TrA.takeg 16 (by kernel_rfl) rfl (by kernel_rfl) (by first | exact fun _ _ _ h => h | exact fun _ _ _ h => nomatch h.1) (by exact fun _ h => h) rfl rfl rfl (decide_eq_false (by first | (with_reducible assumption) | (with_reducible rfl) | (with_reducible exact (not_not_intro rfl)) | omega)) (by exact Stab.int rfl rfl rfl) rfl rfl ?_)); ((refine TrA.takeg 17 (by kernel_rfl) rfl (by kernel_rfl) (by first | exact fun _ _ _ h => h | exact fun _ _ _ h => nomatch h.1) (by exact fun _ h => h) rfl rfl rfl (decide_eq_false (by first | (with_reducible assumption) | (with_reducible rfl) | (with_reducible exact (not_not_intro rfl)) | omega)) (by first | exact Stab.move rfl) rfl rfl ?_)); ((refine TrA.takeu 18 (by kernel_rfl) rfl (by kernel_rfl) (by first | exact fun _ _ _ h => h | exact fun _ _ _ h => nomatch h.1) (by exact fun _ h => h) rfl rfl rfl (by first | rfl | (simp; done) | (simp; omega)) rfl rfl ?_)); ((refine TrA.takeu 19 (by kernel_rfl) rfl (by kernel_rfl) (by first | exact fun _ _ _ h => h | exact fun _ _ _ h => nomatch h.1) (by exact fun _ h => h) rfl rfl rfl (by first | rfl | (simp; done) | (simp; omega)) rfl rfl ?_)); ((refine TrA.takeu 23 (by kernel_rfl) rfl (by kernel_rfl) (by first | exact fun _ _ _ h => h | exact fun _ _ _ h => nomatch h.1) (by exact fun _ h => h) rfl rfl rfl (by first | rfl | (simp; done) | (simp; omega)) rfl rfl ?_)); ((refine TrA.takeu 24 (by kernel_rfl) rfl (by kernel_rfl) (by first | exact fun _ _ _ h => h | exact fun _ _ _ h => nomatch h.1) (by exact fun _ h => h) rfl rfl rfl (by first | rfl | (simp; done) | (simp; omega)) rfl rfl ?_)); ((refine TrA.takeu 20 (by kernel_rfl) rfl (by kernel_rfl) (by first | exact fun _ _ _ h => h | exact fun _ _ _ h => nomatch h.1) (by exact fun _ h => h) rfl rfl rfl (by first | rfl | (simp; done) | (simp; omega)) rfl rfl ?_)); ((refine TrA.takeu 25 (by kernel_rfl) rfl (by kernel_rfl) (by first | exact fun _ _ _ h => h | exact fun _ _ _ h => nomatch h.1) (by exact fun _ h => h) rfl rfl rfl (by first | rfl | (simp; done) | (simp; omega)) rfl rfl ?_)); ((refine TrA.takeu 21 (by kernel_rfl) rfl (by kernel_rfl) (by first | exact fun _ _ _ h => h | exact fun _ _ _ h => nomatch h.1) (by exact fun _ h => h) rfl rfl rfl (by first | rfl | (simp; done) | (simp; omega)) rfl rfl ?_)); ((refine TrA.takeu 26 (by kernel_rfl) rfl (by kernel_rfl) (by first | exact fun _ _ _ h => h | exact fun _ _ _ h => nomatch h.1) (by exact fun _ h => h) rfl rfl rfl (by first | rfl | (simp; done) | (simp; omega)) rfl rfl ?_)); ((refine TrA.takeu 22 (by kernel_rfl) rfl (by kernel_rfl) (by first | exact fun _ _ _ h => h | exact fun _ _ _ h => nomatch h.1) (by exact fun _ h => h) rfl rfl rfl (by first | rfl | (simp; done) | (simp; omega)) rfl rfl ?_)); ((refine TrA.takeu 27 (by kernel_rfl) rfl (by kernel_rfl) (by first | exact fun _ _ _ h => h | exact fun _ _ _ h => nomatch h.1) (by exact fun _ h => h) rfl rfl rfl (by first | rfl | (simp; done) | (simp; omega)) rfl rfl ?_)); ((refine TrA.takeg 28 (by kernel_rfl) rfl (by kernel_rfl) (by first | exact fun _ _ _ h => h | exact fun _ _ _ h => nomatch h.1) (by exact fun _ h => h) rfl rfl rfl (decide_eq_false (by first | (with_reducible assumption) | (with_reducible rfl) | (with_reducible exact (not_not_intro rfl)) | omega)) (by exact Stab.pick_fd rfl (by first | (with_reducible assumption) | (with_reducible rfl) | (with_reducible exact (not_not_intro rfl)) | omega) rfl) rfl rfl ?_)); (refine TrA.take 29 (by kernel_rfl) rfl (by kernel_rfl) (by first | exact fun _ _ _ h => h | exact fun _ _ _ h => nomatch h.1) (by exact fun _ h => h) rfl (by exact Stab.pick_fd rfl (by first | (with_reducible assumption) | (with_reducible rfl) | (with_reducible exact (not_not_intro rfl)) | omega) rfl) rfl rfl ?_); (refine TrA.done (by kernel_rfl) ?_))
      repeat (first | ((with_reducible refine Tr.step rfl ?_); (first | ((with_reducible refine Knd.move ?_); (refine Exec.stab rfl (Stab.move rfl) rfl ?_)) | ((with_reducible refine Knd.assign ?_); (refine Exec.stab rfl (Stab.assign rfl) rfl ?_)) | ((with_reducible refine Knd.load ?_); ((refine Exec.stab rfl (Stab.loadM rfl (tysOk.get rfl) rfl (by assumption)) rfl ?_))) | ((with_reducible refine Knd.binOp ?_); ((refine Exec.stab rfl (Stab.addi rfl rfl (by omega)) rfl ?_))) | ((with_reducible refine Knd.indexAddr ?_); ((refine Exec.stab rfl (Stab.indexAddr rfl rfl (tysOk.get rfl) rfl (tysOk.get rfl) rfl (by omega) (by omega) (by first | rfl | assumption)) rfl ?_))))) | (with_reducible refine Tr.next ?_) | (with_reducible refine Tr.region ?_) | (with_reducible refine Tr.nil ?_) | (with_reducible refine Tr.skip ?_) | (with_reducible refine Tr.in_normal ?_) | (refine Tr.cond_bf rfl (by first | (with_reducible rfl) | (with_reducible assumption) | (with_reducible exact Bool.not_true) | (with_reducible exact Bool.not_false)) ?_))
      rw [← hsu]
      refine Tr.again (0 + 1) ⟨by omega, hasc.step hx (by omega) (fun y h1 h2 => by omega)⟩ (by omega) (holds_sub (by repeat (first | exact SubFr.nil | refine SubFr.cons rfl ?_)) (by repeat (first | exact DropL.refl | apply DropL.skip)))
    obtain ⟨p, hp⟩ := get_of_lt (xs := l) (i := i) (by omega)
    obtain ⟨hAp, pat⟩ := hl.at hp
    have ei : ((i + 1 : Nat) : Int) - 1 = (i : Int) := by omega
    have hi0 : (0 : Int) < ((i + 1 : Nat) : Int) := by omega
    repeat (first | ((with_reducible refine Tr.step rfl ?_); (first | ((with_reducible refine Knd.move ?_); (refine Exec.stab rfl (Stab.move rfl) rfl ?_)) | ((with_reducible refine Knd.len ?_); ((refine Exec.stab rfl (Stab.len rfl (tysOk.get rfl) rfl) rfl ?_))) | ((with_reducible refine Knd.binOp ?_); ((refine Exec.stab rfl (Stab.int rfl rfl rfl) rfl ?_))))) | (with_reducible refine Tr.next ?_) | (with_reducible refine Tr.seq ?_) | (with_reducible refine Tr.region ?_) | (with_reducible refine Tr.nil ?_) | (with_reducible refine Tr.skip ?_) | (with_reducible refine Tr.block ?_) | (refine Tr.cond_t rfl (by first | (with_reducible assumption) | (with_reducible rfl) | (with_reducible exact (not_not_intro rfl)) | omega) ?_))
    (((apply Tr.draw); (kernel_rfl)); (refine TrA.take 0 (by kernel_rfl) rfl (by kernel_rfl) (by first | exact fun _ _ _ h => h | exact fun _ _ _ h => nomatch h.1) (by exact fun _ h => h) rfl (by first | exact Stab.move rfl) rfl rfl ?_); (refine TrA.take 1 (by kernel_rfl) rfl (by kernel_rfl) (by first | exact fun _ _ _ h => h | exact fun _ _ _ h => nomatch h.1) (by exact fun _ h => h) rfl (by first | exact Stab.move rfl) rfl rfl ?_); (refine TrA.take 2 (by kernel_rfl) rfl (by kernel_rfl) (by first | exact fun _ _ _ h => h | exact fun _ _ _ h => nomatch h.1) (by exact fun _ h => h) rfl (by exact Stab.indexAddr rfl rfl (tysOk.get rfl) rfl (tysOk.get rfl) rfl (by omega) (by omega) (by first | rfl | assumption)) rfl rfl ?_); (refine TrA.take 3 (by kernel_rfl) rfl (by kernel_rfl) (by first | exact fun _ _ _ h => h | exact fun _ _ _ h => nomatch h.1) (by exact fun _ h => h) rfl (by exact Stab.loadM rfl (tysOk.get rfl) rfl (by assumption)) rfl rfl ?_); (refine TrA.take 4 (by kernel_rfl) rfl (by kernel_rfl) (by first | exact fun _ _ _ h => h | exact fun _ _ _ h => nomatch h.1) (by exact fun _ h => h) rfl (by exact Stab.int rfl rfl rfl) rfl rfl ?_); (refine TrA.take 5 (by kernel_rfl) rfl (by kernel_rfl) (by first | exact fun _ _ _ h => h | exact fun _ _ _ h => nomatch h.1) (by exact fun _ h => h) rfl (by first | exact Stab.move rfl) rfl rfl ?_); ((refine TrA.takeg 6 (by kernel_rfl) rfl (by kernel_rfl) (by first | exact fun _ _ _ h => h | exact fun _ _ _ h => nomatch h.1) (by exact fun _ h => h) rfl rfl rfl (decide_eq_false (by first | (with_reducible assumption) | (with_reducible rfl) | (with_reducible exact (not_not_intro rfl)) | omega)) (by first | exact Stab.move rfl) rfl rfl ?_)); ((refine TrA.takeg 7 (by kernel_rfl) rfl (by kernel_rfl) (by first | exact fun _ _ _ h => h | exact fun _ _ _ h => nomatch h.1) (by exact fun _ h => h) rfl rfl rfl (decide_eq_false (by first | (with_reducible assumption) | (with_reducible rfl) | (with_reducible exact (not_not_intro rfl)) | omega)) (by first | exact Stab.move rfl) rfl rfl ?_)); ((refine TrA.takeg 10 (by kernel_rfl) rfl (by kernel_rfl) (by first | exact fun _ _ _ h => h | exact fun _ _ _ h => nomatch h.1) (by exact fun _ h => h) rfl rfl rfl (decide_eq_false (by first | (with_reducible assumption) | (with_reducible rfl) | (with_reducible exact (not_not_intro rfl)) | omega)) (by first | exact Stab.move rfl) rfl rfl ?_)); ((refine TrA.takeg 8 (by kernel_rfl) rfl (by kernel_rfl) (by first | exact fun _ _ _ h => h | exact fun _ _ _ h => nomatch h.1) (by exact fun _ h => h) rfl rfl rfl (decide_eq_false (by first | (with_reducible assumption) | (with_reducible rfl) | (with_reducible exact (not_not_intro rfl)) | omega)) (by exact Stab.indexAddr rfl rfl (tysOk.get rfl) rfl (tysOk.get rfl) rfl (by omega) (by omega) (by first | rfl | assumption)) rfl rfl ?_)); ((refine TrA.takeg 11 (by kernel_rfl) rfl (by kernel_rfl) (by first | exact fun _ _ _ h => h | exact fun _ _ _ h => nomatch h.1) (by exact fun _ h => h) rfl rfl rfl (decide_eq_false (by first | (with_reducible assumption) | (with_reducible rfl) | (with_reducible exact (not_not_intro rfl)) | omega)) (by first | exact Stab.len rfl (tysOk.get rfl) rfl | exact Stab.lensL rfl (tysOk.get rfl) rfl | exact Stab.lens rfl (tysOk.get rfl) rfl) rfl rfl ?_)); ((refine TrA.takeg 9 (by kernel_rfl) rfl (by kernel_rfl) (by first | exact fun _ _ _ h => h | exact fun _ _ _ h => nomatch h.1) (by exact fun _ h => h) rfl rfl rfl (decide_eq_false (by first | (with_reducible assumption) | (with_reducible rfl) | (with_reducible exact (not_not_intro rfl)) | omega)) (by exact Stab.loadM rfl (tysOk.get rfl) rfl (by assumption)) rfl rfl ?_)); ((refine TrA.takeg 12 (by kernel_rfl) rfl (by kernel_rfl) (by first | exact fun _ _ _ h => h | exact fun _ _ _ h => nomatch h.1) (by exact fun _ h => h) rfl rfl rfl (decide_eq_false (by first | (with_reducible assumption) | (with_reducible rfl) | (with_reducible exact (not_not_intro rfl)) | omega)) (by exact Stab.int rfl rfl rfl) rfl rfl ?_)); (refine TrA.take 13 (by kernel_rfl) rfl (by kernel_rfl) (by first | exact fun _ _ _ h => h | exact fun _ _ _ h => nomatch h.1) (by exact fun _ h => h) rfl (by exact Stab.pick_fd rfl (by first | (with_reducible assumption) | (with_reducible rfl) | (with_reducible exact (not_not_intro rfl)) | omega) rfl) rfl rfl ?_); (refine TrA.take 14 (by kernel_rfl) rfl (by kernel_rfl) (by first | exact fun _ _ _ h => h | exact fun _ _ _ h => nomatch h.1) (by exact fun _ h => h) rfl (by first | exact Stab.move rfl) rfl rfl ?_); ((refine TrA.takeg 15 (by kernel_rfl) rfl (by kernel_rfl) (by first | exact fun _ _ _ h => h | exact fun _ _ _ h => nomatch h.1) (by exact fun _ h => h) rfl rfl rfl (decide_eq_false (by first | (with_reducible assumption) | (with_reducible rfl) | (with_reducible exact (not_not_intro rfl)) | omega)) (by first | exact Stab.move rfl) rfl rfl ?_)); ((refine TrA.takeg 16 (by kernel_rfl) rfl (by kernel_rfl) (by first | exact fun _ _ _ h => h | exact fun _ _ _ h => nomatch h.1) (by exact fun _ h => h) rfl rfl rfl (decide_eq_false (by first | (with_reducible assumption) | (with_reducible rfl) | (with_reducible exact (not_not_intro rfl)) | omega)) (by exact Stab.int rfl rfl rfl) rfl rfl ?_)); ((refine TrA.takeg 17 (by kernel_rfl) rfl (by kernel_rfl) (by first | exact fun _ _ _ h => h | exact fun _ _ _ h => nomatch h.1) (by exact fun _ h => h) rfl rfl rfl (decide_eq_false (by first | (with_reducible assumption) | (with_reducible rfl) | (with_reducible exact (not_not_intro rfl)) | omega)) (by first | exact Stab.move rfl) rfl rfl ?_)); ((refine TrA.takeg 18 (by kernel_rfl) rfl (by kernel_rfl) (by first | exact fun _ _ _ h => h | exact fun _ _ _ h => nomatch h.1) (by exact fun _ h => h) rfl rfl rfl (decide_eq_true (by first | (with_reducible assumption) | (with_reducible rfl) | (with_reducible exact (not_not_intro rfl)) | omega)) (by first | exact Stab.move rfl) rfl rfl ?_)); ((refine TrA.takeg 19 (by kernel_rfl) rfl (by kernel_rfl) (by first | exact fun _ _ _ h => h | exact fun _ _ _ h => nomatch h.1) (by exact fun _ h => h) rfl rfl rfl (decide_eq_true (by first | (with_reducible assumption) | (with_reducible rfl) | (with_reducible exact (not_not_intro rfl)) | omega)) (by first | exact Stab.move rfl) rfl rfl ?_)); ((refine TrA.takeg 23 (by kernel_rfl) rfl (by kernel_rfl) (by first | exact fun _ _ _ h => h | exact fun _ _ _ h => nomatch h.1) (by exact fun _ h => h) rfl rfl rfl (decide_eq_true (by first | (with_reducible assumption) | (with_reducible rfl) | (with_reducible exact (not_not_intro rfl)) | omega)) (by first | exact Stab.move rfl) rfl rfl ?_)); ((refine TrA.takeg 24 (by kernel_rfl) rfl (by kernel_rfl) (by first | exact fun _ _ _ h => h | exact fun _ _ _ h => nomatch h.1) (by exact fun _ h => h) rfl rfl rfl (decide_eq_true (by first | (with_reducible assumption) | (with_reducible rfl) | (with_reducible exact (not_not_intro rfl)) | omega)) (by first | exact Stab.move rfl) rfl rfl ?_)); ((refine TrA.takeg 20 (by kernel_rfl) rfl (by kernel_rfl) (by first | exact fun _ _ _ h => h | exact fun _ _ _ h => nomatch h.1) (by exact fun _ h => h) rfl rfl rfl (decide_eq_true (by first | (with_reducible assumption) | (with_reducible rfl) | (with_reducible exact (not_not_intro rfl)) | omega)) (by exact Stab.subi rfl rfl (by omega)) rfl rfl ?_)))
    rw [ei]
    by_cases hpx : (n : Int) ≤ p
    · (((refine TrA.takeg 25 (by kernel_rfl) rfl (by kernel_rfl) (by first | exact fun _ _ _ h => h | exact fun _ _ _ h => nomatch h.1) (by exact fun _ h => h) rfl rfl rfl (decide_eq_true (by first | (with_reducible assumption) | (with_reducible rfl) | (with_reducible exact (not_not_intro rfl)) | omega)) (by exact Stab.indexAddr rfl rfl (tysOk.get rfl) rfl (tysOk.get rfl) rfl (by omega) (by omega) (by first | rfl | assumption)) rfl rfl ?_)); ((refine TrA.takeg 21 (by kernel_rfl) rfl (by kernel_rfl) (by first | exact fun _ _ _ h => h | exact fun _ _ _ h => nomatch h.1) (by exact fun _ h => h) rfl rfl rfl (decide_eq_true (by first | (with_reducible assumption) | (with_reducible rfl) | (with_reducible exact (not_not_intro rfl)) | omega)) (by exact Stab.indexAddr rfl rfl (tysOk.get rfl) rfl (tysOk.get rfl) rfl (by omega) (by omega) (by first | rfl | assumption)) rfl rfl ?_)); ((refine TrA.takeg 26 (by kernel_rfl) rfl (by kernel_rfl) (by first | exact fun _ _ _ h => h | exact fun _ _ _ h => nomatch h.1) (by exact fun _ h => h) rfl rfl rfl (decide_eq_true (by first | (with_reducible assumption) | (with_reducible rfl) | (with_reducible exact (not_not_intro rfl)) | omega)) (by exact Stab.loadM rfl (tysOk.get rfl) rfl (by assumption)) rfl rfl ?_)); ((refine TrA.takeg 22 (by kernel_rfl) rfl (by kernel_rfl) (by first | exact fun _ _ _ h => h | exact fun _ _ _ h => nomatch h.1) (by exact fun _ h => h) rfl rfl rfl (decide_eq_true (by first | (with_reducible assumption) | (with_reducible rfl) | (with_reducible exact (not_not_intro rfl)) | omega)) (by exact Stab.loadM rfl (tysOk.get rfl) rfl (by assumption)) rfl rfl ?_)); ((refine TrA.takeg 27 (by kernel_rfl) rfl (by kernel_rfl) (by first | exact fun _ _ _ h => h | exact fun _ _ _ h => nomatch h.1) (by exact fun _ h => h) rfl rfl rfl (decide_eq_true (by first | (with_reducible assumption) | (with_reducible rfl) | (with_reducible exact (not_not_intro rfl)) | omega)) (by exact Stab.int rfl rfl rfl) rfl rfl ?_)); ((refine TrA.takeg 28 (by kernel_rfl) rfl (by kernel_rfl) (by first | exact fun _ _ _ h => h | exact fun _ _ _ h => nomatch h.1) (by exact fun _ h => h) rfl rfl rfl (decide_eq_false (by first | (with_reducible assumption) | (with_reducible rfl) | (with_reducible exact (not_not_intro rfl)) | omega)) (by exact Stab.pick_td rfl (by first | (with_reducible assumption) | (with_reducible rfl) | (with_reducible exact (not_not_intro rfl)) | omega) rfl) rfl rfl ?_)); (refine TrA.take 29 (by kernel_rfl) rfl (by kernel_rfl) (by first | exact fun _ _ _ h => h | exact fun _ _ _ h => nomatch h.1) (by exact fun _ h => h) rfl (by exact Stab.pick_fd rfl (by first | (with_reducible assumption) | (with_reducible rfl) | (with_reducible exact (not_not_intro rfl)) | omega) rfl) rfl rfl ?_); (refine TrA.done (by kernel_rfl) ?_))
      repeat (first | ((with_reducible refine Tr.step rfl ?_); (((with_reducible refine Knd.assign ?_); (refine Exec.stab rfl (Stab.assign rfl) rfl ?_)))) | (with_reducible refine Tr.next ?_) | (with_reducible refine Tr.seq ?_) | (with_reducible refine Tr.region ?_) | (with_reducible refine Tr.nil ?_) | (with_reducible refine Tr.ret ?_) | (with_reducible refine Tr.then_ret ?_) | (with_reducible refine Tr.in_ret ?_) | (refine Tr.cond_t rfl (by first | (with_reducible assumption) | (with_reducible rfl) | (with_reducible exact (not_not_intro rfl)) | omega) ?_))
      (refine Tr.done (by first | exact .inl rfl | exact .inr rfl) rfl (by repeat (first | exact RVs.nil | (apply RVs.cons; (exact RV.tmp rfl)))) (by first | exact Mem.le.refl _ | assumption) (by exact ⟨[], rfl⟩) ⟨rfl, ?_⟩)
      exact ⟨CutR.no hv fun h => by have := (h (i + 1) n hil hx).2.2 p (by omega) (by simpa using hp); omega, rfl⟩
    · (((refine TrA.takeg 25 (by kernel_rfl) rfl (by kernel_rfl) (by first | exact fun _ _ _ h => h | exact fun _ _ _ h => nomatch h.1) (by exact fun _ h => h) rfl rfl rfl (decide_eq_true (by first | (with_reducible assumption) | (with_reducible rfl) | (with_reducible exact (not_not_intro rfl)) | omega)) (by exact Stab.indexAddr rfl rfl (tysOk.get rfl) rfl (tysOk.get rfl) rfl (by omega) (by omega) (by first | rfl | assumption)) rfl rfl ?_)); ((refine TrA.takeg 21 (by kernel_rfl) rfl (by kernel_rfl) (by first | exact fun _ _ _ h => h | exact fun _ _ _ h => nomatch h.1) (by exact fun _ h => h) rfl rfl rfl (decide_eq_true (by first | (with_reducible assumption) | (with_reducible rfl) | (with_reducible exact (not_not_intro rfl)) | omega)) (by exact Stab.indexAddr rfl rfl (tysOk.get rfl) rfl (tysOk.get rfl) rfl (by omega) (by omega) (by first | rfl | assumption)) rfl rfl ?_)); ((refine TrA.takeg 26 (by kernel_rfl) rfl (by kernel_rfl) (by first | exact fun _ _ _ h => h | exact fun _ _ _ h => nomatch h.1) (by exact fun _ h => h) rfl rfl rfl (decide_eq_true (by first | (with_reducible assumption) | (with_reducible rfl) | (with_reducible exact (not_not_intro rfl)) | omega)) (by exact Stab.loadM rfl (tysOk.get rfl) rfl (by assumption)) rfl rfl ?_)); ((refine TrA.takeg 22 (by kernel_rfl) rfl (by kernel_rfl) (by first | exact fun _ _ _ h => h | exact fun _ _ _ h => nomatch h.1) (by exact fun _ h => h) rfl rfl rfl (decide_eq_true (by first | (with_reducible assumption) | (with_reducible rfl) | (with_reducible exact (not_not_intro rfl)) | omega)) (by exact Stab.loadM rfl (tysOk.get rfl) rfl (by assumption)) rfl rfl ?_)); ((refine TrA.takeg 27 (by kernel_rfl) rfl (by kernel_rfl) (by first | exact fun _ _ _ h => h | exact fun _ _ _ h => nomatch h.1) (by exact fun _ h => h) rfl rfl rfl (decide_eq_true (by first | (with_reducible assumption) | (with_reducible rfl) | (with_reducible exact (not_not_intro rfl)) | omega)) (by exact Stab.int rfl rfl rfl) rfl rfl ?_)); ((refine TrA.takeg 28 (by kernel_rfl) rfl (by kernel_rfl) (by first | exact fun _ _ _ h => h | exact fun _ _ _ h => nomatch h.1) (by exact fun _ h => h) rfl rfl rfl (decide_eq_false (by first | (with_reducible assumption) | (with_reducible rfl) | (with_reducible exact (not_not_intro rfl)) | omega)) (by exact Stab.pick_td rfl (by first | (with_reducible assumption) | (with_reducible rfl) | (with_reducible exact (not_not_intro rfl)) | omega) rfl) rfl rfl ?_)); (refine TrA.take 29 (by kernel_rfl) rfl (by kernel_rfl) (by first | exact fun _ _ _ h => h | exact fun _ _ _ h => nomatch h.1) (by exact fun _ h => h) rfl (by exact Stab.pick_fd rfl (by first | (with_reducible assumption) | (with_reducible rfl) | (with_reducible exact (not_not_intro rfl)) | omega) rfl) rfl rfl ?_); (refine TrA.done (by kernel_rfl) ?_))
      repeat (first | ((with_reducible refine Tr.step rfl ?_); (first | ((with_reducible refine Knd.move ?_); (refine Exec.stab rfl (Stab.move rfl) rfl ?_)) | ((with_reducible refine Knd.assign ?_); (refine Exec.stab rfl (Stab.assign rfl) rfl ?_)) | ((with_reducible refine Knd.load ?_); ((refine Exec.stab rfl (Stab.loadM rfl (tysOk.get rfl) rfl (by assumption)) rfl ?_))) | ((with_reducible refine Knd.binOp ?_); ((refine Exec.stab rfl (Stab.addi rfl rfl (by omega)) rfl ?_))) | ((with_reducible refine Knd.indexAddr ?_); ((refine Exec.stab rfl (Stab.indexAddr rfl rfl (tysOk.get rfl) rfl (tysOk.get rfl) rfl (by omega) (by omega) (by first | rfl | assumption)) rfl ?_))))) | (with_reducible refine Tr.next ?_) | (with_reducible refine Tr.region ?_) | (with_reducible refine Tr.nil ?_) | (with_reducible refine Tr.skip ?_) | (with_reducible refine Tr.in_normal ?_) | (refine Tr.cond_f rfl (by first | (with_reducible assumption) | (with_reducible rfl) | (with_reducible exact (not_not_intro rfl)) | omega) ?_))
      rw [← hsu]
      refine Tr.again (i + 1 + 1) ⟨by omega, hasc.step hx (by omega) (fun y h1 h2 => ?_)⟩ (by omega) (holds_sub (by repeat (first | exact SubFr.nil | refine SubFr.cons rfl ?_)) (by repeat (first | exact DropL.refl | apply DropL.skip)))
      simp only [Nat.add_sub_cancel] at h2
      rw [hp] at h2; cases h2; omega
  have ei : i = l.length := by omega
  subst ei
  rw [List.take_length] at hcn ⊢
  have hmem : ∀ x ∈ l, 0 ≤ x ∧ x < need.length := fun x hx => by
    obtain ⟨q, hq⟩ := List.mem_iff_getElem?.1 hx
    have := hasc q x (List.getElem?_eq_some_iff.1 hq).1 hq
    exact ⟨this.1, this.2.1⟩
  repeat (first | ((with_reducible refine Tr.step rfl ?_); (first | ((with_reducible refine Knd.move ?_); (refine Exec.stab rfl (Stab.move rfl) rfl ?_)) | ((with_reducible refine Knd.assign ?_); (refine Exec.stab rfl (Stab.assign rfl) rfl ?_)) | ((with_reducible refine Knd.len ?_); ((refine Exec.stab rfl (Stab.len rfl (tysOk.get rfl) rfl) rfl ?_))) | ((with_reducible refine Knd.binOp ?_); ((refine Exec.stab rfl (Stab.int rfl rfl rfl) rfl ?_))))) | (with_reducible refine Tr.next ?_) | (with_reducible refine Tr.seq ?_) | (with_reducible refine Tr.region ?_) | (with_reducible refine Tr.nil ?_) | (with_reducible refine Tr.block ?_) | (with_reducible refine Tr.exit ?_) | (with_reducible refine Tr.then_exit ?_) | ((with_reducible refine Tr.in_exit ?_ ?_); (exact rfl)) | (refine Tr.cond_f rfl (by first | (with_reducible assumption) | (with_reducible rfl) | (with_reducible exact (not_not_intro rfl)) | omega) ?_))
  refine Tr.loop (α := Nat) (fun y => ⟨99, [(12, .int .i64 (y : Int)), (10, .int .i64 (cutNeed need l - cutHave fits sup l y)), (0, .slice A0 fits.length c0), (1, .slice A1 sup.length c1), (3, .slice A3 l.length c3)], [], M, [] ++ F⟩)
    (fun y => y ≤ sup.length) (fun y => sup.length - y) 0 (Nat.zero_le _) (holds_sub (by refine SubFr.cons rfl ?_; refine SubFr.cons (by simp [cutHave, sumN]; rfl) ?_; exact (by repeat (first | exact SubFr.nil | refine SubFr.cons rfl ?_))) (by repeat (first | exact DropL.refl | apply DropL.skip))) (fun y hy => ?_)
  have hch := cutHave_rng (fits := fits) hv.rs l y
  by_cases hyn : y < sup.length
  rotate_left
  · have ey : y = sup.length := by omega
    subst ey
    repeat (first | ((with_reducible refine Tr.step rfl ?_); (first | ((with_reducible refine Knd.move ?_); (refine Exec.stab rfl (Stab.move rfl) rfl ?_)) | ((with_reducible refine Knd.assign ?_); (refine Exec.stab rfl (Stab.assign rfl) rfl ?_)) | ((with_reducible refine Knd.len ?_); ((refine Exec.stab rfl (Stab.len rfl (tysOk.get rfl) rfl) rfl ?_))) | ((with_reducible refine Knd.binOp ?_); ((refine Exec.stab rfl (Stab.int rfl rfl rfl) rfl ?_))))) | (with_reducible refine Tr.next ?_) | (with_reducible refine Tr.seq ?_) | (with_reducible refine Tr.region ?_) | (with_reducible refine Tr.nil ?_) | (with_reducible refine Tr.exit ?_) | (with_reducible refine Tr.ret ?_) | (with_reducible refine Tr.then_exit ?_) | ((with_reducible refine Tr.in_exit ?_ ?_); (exact rfl)) | (refine Tr.cond_f rfl (by first | (with_reducible assumption) | (with_reducible rfl) | (with_reducible exact (not_not_intro rfl)) | omega) ?_))
    (refine Tr.done (by first | exact .inl rfl | exact .inr rfl) rfl (by repeat (first | exact RVs.nil | (apply RVs.cons; (exact RV.tmp rfl)))) (by first | exact Mem.le.refl _ | assumption) (by exact ⟨[], rfl⟩) ⟨rfl, ?_⟩)
    refine ⟨.inr ⟨hv, _, rfl, ?_⟩, rfl⟩
    rw [decide_eq_true_eq]
    exact ⟨fun h => ⟨hasc, by omega⟩, fun h => by have := h.2; omega⟩
  obtain ⟨frow, hfr⟩ := get_of_lt (xs := fits) (i := y) (by omega)
  have hfrl := hv.rows frow (List.mem_of_getElem? hfr)
  obtain ⟨hA0, fch, fat, fB, fk, rfl, hfB⟩ := hf.elem hfr
  obtain ⟨s, hs1⟩ := get_of_lt hyn
  obtain ⟨hA1, sat⟩ := hs.at hs1
  have hsr := hv.rs s (List.mem_of_getElem? hs1)
  have hsu := cutHave_succ fits sup l y
  rw [getD_of (d := []) hfr, getD_of (d := 0) hs1] at hsu
  generalize cutHave fits sup l y = hav at hch hsu ⊢
  repeat (first | ((with_reducible refine Tr.step rfl ?_); (first | ((with_reducible refine Knd.move ?_); (refine Exec.stab rfl (Stab.move rfl) rfl ?_)) | ((with_reducible refine Knd.assign ?_); (refine Exec.stab rfl (Stab.assign rfl) rfl ?_)) | ((with_reducible refine Knd.len ?_); ((refine Exec.stab rfl (Stab.len rfl (tysOk.get rfl) rfl) rfl ?_))) | ((with_reducible refine Knd.binOp ?_); ((refine Exec.stab rfl (Stab.int rfl rfl rfl) rfl ?_))))) | (with_reducible refine Tr.next ?_) | (with_reducible refine Tr.seq ?_) | (with_reducible refine Tr.region ?_) | (with_reducible refine Tr.nil ?_) | (with_reducible refine Tr.skip ?_) | (with_reducible refine Tr.block ?_) | (refine Tr.cond_t rfl (by first | (with_reducible assumption) | (with_reducible rfl) | (with_reducible exact (not_not_intro rfl)) | omega) ?_))
  refine Tr.loop (α := Nat) (fun q => ⟨99, [(14, .int .i64 (q : Int)), (13, .bool (cutTouch frow (l.take q))), (12, .int .i64 (y : Int)), (10, .int .i64 (cutNeed need l - hav)), (0, .slice A0 fits.length c0), (1, .slice A1 sup.length c1), (3, .slice A3 l.length c3)], [], M, [] ++ F⟩)
    (fun q => q ≤ l.length) (fun q => l.length - q) 0 (Nat.zero_le _) (holds_sub (by repeat (first | exact SubFr.nil | refine SubFr.cons rfl ?_)) (by repeat (first | exact DropL.refl | apply DropL.skip))) (fun q hq => ?_)
  by_cases hql : q < l.length
  · obtain ⟨x, hx⟩ := get_of_lt hql
    obtain ⟨hA, hat⟩ := hl.at hx
    have hxm := hmem x (List.mem_of_getElem? hx)
    obtain ⟨n, rfl⟩ : ∃ n : Nat, x = (n : Int) := ⟨x.toNat, by omega⟩
    obtain ⟨fx, hfx⟩ := get_of_lt (xs := frow) (i := n) (by omega)
    obtain ⟨hfA, fxat⟩ := hfB.at hfx
    have htk : cutTouch frow (l.take (q + 1)) = (cutTouch frow (l.take q) || fx) := by
      unfold cutTouch
      rw [List.take_add_one, hx, List.any_append]
      simp [hfx]
    cases ht : cutTouch frow (l.take q)
    · rw [ht, Bool.false_or] at htk
      repeat (first | ((with_reducible refine Tr.step rfl ?_); (first | ((with_reducible refine Knd.move ?_); (refine Exec.stab rfl (Stab.move rfl) rfl ?_)) | ((with_reducible refine Knd.len ?_); ((refine Exec.stab rfl (Stab.len rfl (tysOk.get rfl) rfl) rfl ?_))) | ((with_reducible refine Knd.binOp ?_); ((refine Exec.stab rfl (Stab.int rfl rfl rfl) rfl ?_))))) | (with_reducible refine Tr.next ?_) | (with_reducible refine Tr.seq ?_) | (with_reducible refine Tr.region ?_) | (with_reducible refine Tr.nil ?_) | (with_reducible refine Tr.skip ?_) | (with_reducible refine Tr.block ?_) | (refine Tr.cond_t rfl (by first | (with_reducible assumption) | (with_reducible rfl) | (with_reducible exact (not_not_intro rfl)) | omega) ?_))
      (((apply Tr.draw); (kernel_rfl)); (refine TrA.take 0 (by kernel_rfl) rfl (by kernel_rfl) (by first | exact fun _ _ _ h => h | exact fun _ _ _ h => nomatch h.1) (by exact fun _ h => h) rfl (by first | exact Stab.move rfl) rfl rfl ?_); (refine TrA.take 1 (by kernel_rfl) rfl (by kernel_rfl) (by first | exact fun _ _ _ h => h | exact fun _ _ _ h => nomatch h.1) (by exact fun _ h => h) rfl (by first | exact Stab.move rfl) rfl rfl ?_); ((refine TrA.takeg 2 (by kernel_rfl) rfl (by kernel_rfl) (by first | exact fun _ _ _ h => h | exact fun _ _ _ h => nomatch h.1) (by exact fun _ h => h) rfl rfl rfl (by first | (with_reducible rfl) | (with_reducible assumption) | (with_reducible exact Bool.not_true) | (with_reducible exact Bool.not_false)) (by first | exact Stab.move rfl) rfl rfl ?_)); ((refine TrA.takeg 3 (by kernel_rfl) rfl (by kernel_rfl) (by first | exact fun _ _ _ h => h | exact fun _ _ _ h => nomatch h.1) (by exact fun _ h => h) rfl rfl rfl (by first | (with_reducible rfl) | (with_reducible assumption) | (with_reducible exact Bool.not_true) | (with_reducible exact Bool.not_false)) (by first | exact Stab.move rfl) rfl rfl ?_)); ((refine TrA.takeg 6 (by kernel_rfl) rfl (by kernel_rfl) (by first | exact fun _ _ _ h => h | exact fun _ _ _ h => nomatch h.1) (by exact fun _ h => h) rfl rfl rfl (by first | (with_reducible rfl) | (with_reducible assumption) | (with_reducible exact Bool.not_true) | (with_reducible exact Bool.not_false)) (by first | exact Stab.move rfl) rfl rfl ?_)); ((refine TrA.takeg 7 (by kernel_rfl) rfl (by kernel_rfl) (by first | exact fun _ _ _ h => h | exact fun _ _ _ h => nomatch h.1) (by exact fun _ h => h) rfl rfl rfl (by first | (with_reducible rfl) | (with_reducible assumption) | (with_reducible exact Bool.not_true) | (with_reducible exact Bool.not_false)) (by first | exact Stab.move rfl) rfl rfl ?_)); ((refine TrA.takeg 4 (by kernel_rfl) rfl (by kernel_rfl) (by first | exact fun _ _ _ h => h | exact fun _ _ _ h => nomatch h.1) (by exact fun _ h => h) rfl rfl rfl (by first | (with_reducible rfl) | (with_reducible assumption) | (with_reducible exact Bool.not_true) | (with_reducible exact Bool.not_false)) (by exact Stab.indexAddr rfl rfl (tysOk.get rfl) rfl (tysOk.get rfl) rfl (by omega) (by omega) (by first | rfl | assumption)) rfl rfl ?_)); ((refine TrA.takeg 8 (by kernel_rfl) rfl (by kernel_rfl) (by first | exact fun _ _ _ h => h | exact fun _ _ _ h => nomatch h.1) (by exact fun _ h => h) rfl rfl rfl (by first | (with_reducible rfl) | (with_reducible assumption) | (with_reducible exact Bool.not_true) | (with_reducible exact Bool.not_false)) (by exact Stab.indexAddr rfl rfl (tysOk.get rfl) rfl (tysOk.get rfl) rfl (by omega) (by omega) (by first | rfl | assumption)) rfl rfl ?_)); ((refine TrA.takeg 5 (by kernel_rfl) rfl (by kernel_rfl) (by first | exact fun _ _ _ h => h | exact fun _ _ _ h => nomatch h.1) (by exact fun _ h => h) rfl rfl rfl (by first | (with_reducible rfl) | (with_reducible assumption) | (with_reducible exact Bool.not_true) | (with_reducible exact Bool.not_false)) (by exact Stab.loadM rfl (tysOk.get rfl) rfl (by assumption)) rfl rfl ?_)); ((refine TrA.takeg 9 (by kernel_rfl) rfl (by kernel_rfl) (by first | exact fun _ _ _ h => h | exact fun _ _ _ h => nomatch h.1) (by exact fun _ h => h) rfl rfl rfl (by first | (with_reducible rfl) | (with_reducible assumption) | (with_reducible exact Bool.not_true) | (with_reducible exact Bool.not_false)) (by exact Stab.loadM rfl (tysOk.get rfl) rfl (by assumption)) rfl rfl ?_)); ((refine TrA.takeg 10 (by kernel_rfl) rfl (by kernel_rfl) (by first | exact fun _ _ _ h => h | exact fun _ _ _ h => nomatch h.1) (by exact fun _ h => h) rfl rfl rfl (by first | (with_reducible rfl) | (with_reducible assumption) | (with_reducible exact Bool.not_true) | (with_reducible exact Bool.not_false)) (by exact Stab.indexAddr rfl rfl (tysOk.get rfl) rfl (tysOk.get rfl) rfl (by omega) (by omega) (by first | rfl | assumption)) rfl rfl ?_)); ((refine TrA.takeg 11 (by kernel_rfl) rfl (by kernel_rfl) (by first | exact fun _ _ _ h => h | exact fun _ _ _ h => nomatch h.1) (by exact fun _ h => h) rfl rfl rfl (by first | (with_reducible rfl) | (with_reducible assumption) | (with_reducible exact Bool.not_true) | (with_reducible exact Bool.not_false)) (by exact Stab.loadM rfl (tysOk.get rfl) rfl (by assumption)) rfl rfl ?_)); (refine TrA.take 12 (by kernel_rfl) rfl (by kernel_rfl) (by first | exact fun _ _ _ h => h | exact fun _ _ _ h => nomatch h.1) (by exact fun _ h => h) rfl (by exact Stab.pick_f rfl (by first | (with_reducible rfl) | (with_reducible assumption) | (with_reducible exact Bool.not_true) | (with_reducible exact Bool.not_false)) rfl) rfl rfl ?_); (refine TrA.take 13 (by kernel_rfl) rfl (by kernel_rfl) (by first | exact fun _ _ _ h => h | exact fun _ _ _ h => nomatch h.1) (by exact fun _ h => h) rfl (by first | exact Stab.assign rfl) rfl rfl ?_); (refine TrA.done (by kernel_rfl) ?_))
      repeat (first | ((with_reducible refine Tr.step rfl ?_); (first | ((with_reducible refine Knd.move ?_); (refine Exec.stab rfl (Stab.move rfl) rfl ?_)) | ((with_reducible refine Knd.assign ?_); (refine Exec.stab rfl (Stab.assign rfl) rfl ?_)) | ((with_reducible refine Knd.binOp ?_); ((refine Exec.stab rfl (Stab.addi rfl rfl (by omega)) rfl ?_))))) | (with_reducible refine Tr.next ?_) | (with_reducible refine Tr.region ?_) | (with_reducible refine Tr.nil ?_) | (with_reducible refine Tr.in_normal ?_))
      rw [← htk]
      refine Tr.again (q + 1) hql (by omega) (holds_sub (by repeat (first | exact SubFr.nil | refine SubFr.cons rfl ?_)) (by repeat (first | exact DropL.refl | apply DropL.skip)))
    · rw [ht, Bool.true_or] at htk
      repeat (first | ((with_reducible refine Tr.step rfl ?_); (first | ((with_reducible refine Knd.move ?_); (refine Exec.stab rfl (Stab.move rfl) rfl ?_)) | ((with_reducible refine Knd.len ?_); ((refine Exec.stab rfl (Stab.len rfl (tysOk.get rfl) rfl) rfl ?_))) | ((with_reducible refine Knd.binOp ?_); ((refine Exec.stab rfl (Stab.int rfl rfl rfl) rfl ?_))))) | (with_reducible refine Tr.next ?_) | (with_reducible refine Tr.seq ?_) | (with_reducible refine Tr.region ?_) | (with_reducible refine Tr.nil ?_) | (with_reducible refine Tr.skip ?_) | (with_reducible refine Tr.block ?_) | (refine Tr.cond_t rfl (by first | (with_reducible assumption) | (with_reducible rfl) | (with_reducible exact (not_not_intro rfl)) | omega) ?_))
      (((apply Tr.draw); (kernel_rfl)); (refine TrA.take 0 (by kernel_rfl) rfl (by kernel_rfl) (by first | exact fun _ _ _ h => h | exact fun _ _ _ h => nomatch h.1) (by exact fun _ h => h) rfl (by first | exact Stab.move rfl) rfl rfl ?_); (refine TrA.take 1 (by kernel_rfl) rfl (by kernel_rfl) (by first | exact fun _ _ _ h => h | exact fun _ _ _ h => nomatch h.1) (by exact fun _ h => h) rfl (by first | exact Stab.move rfl) rfl rfl ?_); ((refine TrA.takeu 2 (by kernel_rfl) rfl (by kernel_rfl) (by first | exact fun _ _ _ h => h | exact fun _ _ _ h => nomatch h.1) (by exact fun _ h => h) rfl rfl rfl (by first | rfl | (simp; done) | (simp; omega)) rfl rfl ?_)); ((refine TrA.takeu 3 (by kernel_rfl) rfl (by kernel_rfl) (by first | exact fun _ _ _ h => h | exact fun _ _ _ h => nomatch h.1) (by exact fun _ h => h) rfl rfl rfl (by first | rfl | (simp; done) | (simp; omega)) rfl rfl ?_)); ((refine TrA.takeu 6 (by kernel_rfl) rfl (by kernel_rfl) (by first | exact fun _ _ _ h => h | exact fun _ _ _ h => nomatch h.1) (by exact fun _ h => h) rfl rfl rfl (by first | rfl | (simp; done) | (simp; omega)) rfl rfl ?_)); ((refine TrA.takeu 7 (by kernel_rfl) rfl (by kernel_rfl) (by first | exact fun _ _ _ h => h | exact fun _ _ _ h => nomatch h.1) (by exact fun _ h => h) rfl rfl rfl (by first | rfl | (simp; done) | (simp; omega)) rfl rfl ?_)); ((refine TrA.takeu 4 (by kernel_rfl) rfl (by kernel_rfl) (by first | exact fun _ _ _ h => h | exact fun _ _ _ h => nomatch h.1) (by exact fun _ h => h) rfl rfl rfl (by first | rfl | (simp; done) | (simp; omega)) rfl rfl ?_)); ((refine TrA.takeu 8 (by kernel_rfl) rfl (by kernel_rfl) (by first | exact fun _ _ _ h => h | exact fun _ _ _ h => nomatch h.1) (by exact fun _ h => h) rfl rfl rfl (by first | rfl | (simp; done) | (simp; omega)) rfl rfl ?_)); ((refine TrA.takeu 5 (by kernel_rfl) rfl (by kernel_rfl) (by first | exact fun _ _ _ h => h | exact fun _ _ _ h => nomatch h.1) (by exact fun _ h => h) rfl rfl rfl (by first | rfl | (simp; done) | (simp; omega)) rfl rfl ?_)); ((refine TrA.takeu 9 (by kernel_rfl) rfl (by kernel_rfl) (by first | exact fun _ _ _ h => h | exact fun _ _ _ h => nomatch h.1) (by exact fun _ h => h) rfl rfl rfl (by first | rfl | (simp; done) | (simp; omega)) rfl rfl ?_)); ((refine TrA.takeu 10 (by kernel_rfl) rfl (by kernel_rfl) (by first | exact fun _ _ _ h => h | exact fun _ _ _ h => nomatch h.1) (by exact fun _ h => h) rfl rfl rfl (by first | rfl | (simp; done) | (simp; omega)) rfl rfl ?_)); ((refine TrA.takeu 11 (by kernel_rfl) rfl (by kernel_rfl) (by first | exact fun _ _ _ h => h | exact fun _ _ _ h => nomatch h.1) (by exact fun _ h => h) rfl rfl rfl (by first | rfl | (simp; done) | (simp; omega)) rfl rfl ?_)); (refine TrA.take 12 (by kernel_rfl) rfl (by kernel_rfl) (by first | exact fun _ _ _ h => h | exact fun _ _ _ h => nomatch h.1) (by exact fun _ h => h) rfl (by exact Stab.pick_t rfl (by first | (with_reducible rfl) | (with_reducible assumption) | (with_reducible exact Bool.not_true) | (with_reducible exact Bool.not_false)) rfl) rfl rfl ?_); (refine TrA.take 13 (by kernel_rfl) rfl (by kernel_rfl) (by first | exact fun _ _ _ h => h | exact fun _ _ _ h => nomatch h.1) (by exact fun _ h => h) rfl (by first | exact Stab.assign rfl) rfl rfl ?_); (refine TrA.done (by kernel_rfl) ?_))
      repeat (first | ((with_reducible refine Tr.step rfl ?_); (first | ((with_reducible refine Knd.move ?_); (refine Exec.stab rfl (Stab.move rfl) rfl ?_)) | ((with_reducible refine Knd.assign ?_); (refine Exec.stab rfl (Stab.assign rfl) rfl ?_)) | ((with_reducible refine Knd.binOp ?_); ((refine Exec.stab rfl (Stab.addi rfl rfl (by omega)) rfl ?_))))) | (with_reducible refine Tr.next ?_) | (with_reducible refine Tr.region ?_) | (with_reducible refine Tr.nil ?_) | (with_reducible refine Tr.in_normal ?_))
      rw [← htk]
      refine Tr.again (q + 1) hql (by omega) (holds_sub (by repeat (first | exact SubFr.nil | refine SubFr.cons rfl ?_)) (by repeat (first | exact DropL.refl | apply DropL.skip)))
  have eq_ : q = l.length := by omega
  subst eq_
  rw [List.take_length]
  cases ht : cutTouch frow l
  · rw [ht] at hsu
    simp only [Bool.false_eq_true, if_false, Int.add_zero] at hsu
    repeat (first | ((with_reducible refine Tr.step rfl ?_); (first | ((with_reducible refine Knd.move ?_); (refine Exec.stab rfl (Stab.move rfl) rfl ?_)) | ((with_reducible refine Knd.assign ?_); (refine Exec.stab rfl (Stab.assign rfl) rfl ?_)) | ((with_reducible refine Knd.len ?_); ((refine Exec.stab rfl (Stab.len rfl (tysOk.get rfl) rfl) rfl ?_))) | ((with_reducible refine Knd.binOp ?_); (first | (refine Exec.stab rfl (Stab.addi rfl rfl (by omega)) rfl ?_) | (refine Exec.stab rfl (Stab.int rfl rfl rfl) rfl ?_))))) | (with_reducible refine Tr.next ?_) | (with_reducible refine Tr.seq ?_) | (with_reducible refine Tr.region ?_) | (with_reducible refine Tr.nil ?_) | (with_reducible refine Tr.skip ?_) | (with_reducible refine Tr.exit ?_) | (with_reducible refine Tr.then_exit ?_) | (with_reducible refine Tr.in_normal ?_) | ((with_reducible refine Tr.in_exit ?_ ?_); (exact rfl)) | (refine Tr.cond_bf rfl (by first | (with_reducible rfl) | (with_reducible assumption) | (with_reducible exact Bool.not_true) | (with_reducible exact Bool.not_false)) ?_) | (refine Tr.cond_f rfl (by first | (with_reducible assumption) | (with_reducible rfl) | (with_reducible exact (not_not_intro rfl)) | omega) ?_))
    rw [← hsu]
    refine Tr.again (y + 1) hyn (by omega) (holds_sub (by repeat (first | exact SubFr.nil | refine SubFr.cons rfl ?_)) (by repeat (first | exact DropL.refl | apply DropL.skip)))
  · rw [ht] at hsu
    simp only [if_true] at hsu
    repeat (first | ((with_reducible refine Tr.step rfl ?_); (first | ((with_reducible refine Knd.move ?_); (refine Exec.stab rfl (Stab.move rfl) rfl ?_)) | ((with_reducible refine Knd.assign ?_); (refine Exec.stab rfl (Stab.assign rfl) rfl ?_)) | ((with_reducible refine Knd.load ?_); ((refine Exec.stab rfl (Stab.loadM rfl (tysOk.get rfl) rfl (by assumption)) rfl ?_))) | ((with_reducible refine Knd.len ?_); ((refine Exec.stab rfl (Stab.len rfl (tysOk.get rfl) rfl) rfl ?_))) | ((with_reducible refine Knd.binOp ?_); (first | (refine Exec.stab rfl (Stab.addi rfl rfl (by omega)) rfl ?_) | (refine Exec.stab rfl (Stab.subi rfl rfl (by omega)) rfl ?_) | (refine Exec.stab rfl (Stab.int rfl rfl rfl) rfl ?_))) | ((with_reducible refine Knd.indexAddr ?_); ((refine Exec.stab rfl (Stab.indexAddr rfl rfl (tysOk.get rfl) rfl (tysOk.get rfl) rfl (by omega) (by omega) (by first | rfl | assumption)) rfl ?_))))) | (with_reducible refine Tr.next ?_) | (with_reducible refine Tr.seq ?_) | (with_reducible refine Tr.region ?_) | (with_reducible refine Tr.nil ?_) | (with_reducible refine Tr.exit ?_) | (with_reducible refine Tr.then_exit ?_) | (with_reducible refine Tr.in_normal ?_) | ((with_reducible refine Tr.in_exit ?_ ?_); (exact rfl)) | (refine Tr.cond_bt rfl (by first | (with_reducible rfl) | (with_reducible assumption) | (with_reducible exact Bool.not_true) | (with_reducible exact Bool.not_false)) ?_) | (refine Tr.cond_f rfl (by first | (with_reducible assumption) | (with_reducible rfl) | (with_reducible exact (not_not_intro rfl)) | omega) ?_))
    rw [show cutNeed need l - hav - s = cutNeed need l - cutHave fits sup l (y + 1) by omega]
    refine Tr.again (y + 1) hyn (by omega) (holds_sub (by repeat (first | exact SubFr.nil | refine SubFr.cons rfl ?_)) (by repeat (first | exact DropL.refl | apply DropL.skip)))
end Go.Proofs.Ytmioocddmlfboaa
/-
  Matching: the law MatchingCheckSpec walked.
  Conditions: none.
-/
namespace Go.Proofs.Ytmioocddmlfboaa
open Go Bf
attribute [local irreducible] Tr Exec Stab HasTy Go.Addr.add IntKind.wrap
theorem CheckR.same {fits : List (List Bool)} {sup need : List Int} {am : List (List Int)} {r s : Value} (h : CheckR fits sup need am r) (h' : CheckR fits sup need am s) : ∃ (b : Bool) (e : Int), r = .tuple #[.bool b, .int .i64 e] ∧ s = .tuple #[.bool b, .int .i64 e] := by
  rcases h with ⟨h, rfl⟩ | ⟨h, b, rfl, hb⟩
  · exact ⟨false, 300, rfl, h'.bad h⟩
  · rcases h' with ⟨h', -⟩ | ⟨-, b', rfl, hb'⟩
    · rw [vld_iff.2 h] at h'; cases h'
    · have : b = b' := by rw [Bool.eq_iff_iff, hb, hb']
      subst this
      exact ⟨b, 0, rfl, rfl⟩
theorem CutR.same {fits : List (List Bool)} {sup need l : List Int} {r s : Value} (h : CutR fits sup need l r) (h' : CutR fits sup need l s) : ∃ (b : Bool) (e : Int), r = .tuple #[.bool b, .int .i64 e] ∧ s = .tuple #[.bool b, .int .i64 e] := by
  rcases h with ⟨h, rfl⟩ | ⟨h, b, rfl, hb⟩
  · rcases h' with ⟨-, rfl⟩ | ⟨h', -⟩
    · exact ⟨false, 300, rfl, rfl⟩
    · rw [vld_iff.2 h'] at h; cases h
  · rcases h' with ⟨h', -⟩ | ⟨-, b', rfl, hb'⟩
    · rw [vld_iff.2 h] at h'; cases h'
    · have : b = b' := by rw [Bool.eq_iff_iff, hb, hb']
      subst this
      exact ⟨b, 0, rfl, rfl⟩
set_option maxHeartbeats 8000000 in
set_option maxRecDepth 20000 in
theorem checkspec_fn (M : Mem) (A0 A1 A2 A3 A4 : Option Addr) (c0 c1 c2 c3 c4 : Nat) (fits : List (List Bool)) (sup need : List Int) (am : List (List Int)) (l : List Int) (hf : Fits2 M (.slice A0 fits.length c0) fits) (hs : Ints M (.slice A1 sup.length c1) sup) (hn : Ints M (.slice A2 need.length c2) need) (ha : Ints2 M (.slice A3 am.length c3) am) (hl : Ints M (.slice A4 l.length c4) l) (rs : I64s sup) (rn : I64s need) :
    Fn0 Try.prog 3 [.slice A0 fits.length c0, .slice A1 sup.length c1, .slice A2 need.length c2, .slice A3 am.length c3, .slice A4 l.length c4] M (fun r _ => r = .bool true) := by
  have l1 := hs.len_le
  have l2 := hn.len_le
  have l3 := ha.len_le
  have l4 := hl.len_le
  refine Fn.intro Try.func3 rfl rfl Try.ntmps3 rfl fun E F => ?_
  repeat (first | ((with_reducible refine Tr.step rfl ?_); (((with_reducible refine Knd.assign ?_); (refine Exec.stab rfl (Stab.assign rfl) rfl ?_)))) | (with_reducible refine Tr.next ?_) | (with_reducible refine Tr.seq ?_) | (with_reducible refine Tr.region ?_) | (with_reducible refine Tr.nil ?_))
  ((refine Tr.step rfl ?_)); refine Exec.call0 rfl (sane_fn M) rfl ?_
  rintro _ M1 hm1 rfl
  have hf1 := hf.mono RRowB.mono hm1
  repeat (first | ((with_reducible refine Tr.step rfl ?_); (first | ((with_reducible refine Knd.move ?_); (refine Exec.stab rfl (Stab.move rfl) rfl ?_)) | ((with_reducible refine Knd.unOp ?_); ((refine Exec.stab rfl (Stab.not rfl) rfl ?_))))) | (with_reducible refine Tr.next ?_) | (with_reducible refine Tr.seq ?_) | (with_reducible refine Tr.region ?_) | (with_reducible refine Tr.nil ?_) | (with_reducible refine Tr.skip ?_) | (refine Tr.cond_bf rfl (by first | (with_reducible rfl) | (with_reducible assumption) | (with_reducible exact Bool.not_true) | (with_reducible exact Bool.not_false)) ?_))
  ((refine Tr.step rfl ?_)); refine Exec.call0 rfl (few_fn M1 A0 A1 A2 c0 c1 c2 fits sup need hf1 l1 l2) rfl ?_
  rintro _ _ - ⟨⟨few, rfl, hfew⟩, rfl⟩
  cases few
  · repeat (first | ((with_reducible refine Tr.step rfl ?_); (first | ((with_reducible refine Knd.move ?_); (refine Exec.stab rfl (Stab.move rfl) rfl ?_)) | ((with_reducible refine Knd.assign ?_); (refine Exec.stab rfl (Stab.assign rfl) rfl ?_)) | ((with_reducible refine Knd.pick ?_); ((refine Exec.stab rfl (Stab.pick_t rfl (by first | (with_reducible rfl) | (with_reducible assumption) | (with_reducible exact Bool.not_true) | (with_reducible exact Bool.not_false)) rfl) rfl ?_))) | ((with_reducible refine Knd.unOp ?_); ((refine Exec.stab rfl (Stab.not rfl) rfl ?_))))) | (with_reducible refine Tr.next ?_) | (with_reducible refine Tr.seq ?_) | (with_reducible refine Tr.region ?_) | (with_reducible refine Tr.nil ?_) | (refine Tr.guard_s0 rfl rfl rfl (by first | (with_reducible rfl) | (with_reducible assumption) | (with_reducible exact Bool.not_true) | (with_reducible exact Bool.not_false)) rfl rfl ?_) | (with_reducible refine Tr.ret ?_) | (with_reducible refine Tr.then_ret ?_) | (refine Tr.cond_bt rfl (by first | (with_reducible rfl) | (with_reducible assumption) | (with_reducible exact Bool.not_true) | (with_reducible exact Bool.not_false)) ?_))
    (refine Tr.done (by first | exact .inl rfl | exact .inr rfl) rfl (by repeat (first | exact RVs.nil | (apply RVs.cons; (exact RV.tmp rfl)))) (by first | exact Mem.le.refl _ | assumption) (by exact ⟨[], rfl⟩) ⟨rfl, ?_⟩)
    rfl
  by_cases hl80 : 80 < l.length
  · repeat (first | ((with_reducible refine Tr.step rfl ?_); (first | ((with_reducible refine Knd.move ?_); (refine Exec.stab rfl (Stab.move rfl) rfl ?_)) | ((with_reducible refine Knd.assign ?_); (refine Exec.stab rfl (Stab.assign rfl) rfl ?_)) | ((with_reducible refine Knd.pick ?_); (first | (refine Exec.stab rfl (Stab.pick_f rfl (by first | (with_reducible rfl) | (with_reducible assumption) | (with_reducible exact Bool.not_true) | (with_reducible exact Bool.not_false)) rfl) rfl ?_) | (refine Exec.stab rfl (Stab.pick_td rfl (by first | (with_reducible assumption) | (with_reducible rfl) | (with_reducible exact (not_not_intro rfl)) | omega) rfl) rfl ?_))) | ((with_reducible refine Knd.unOp ?_); ((refine Exec.stab rfl (Stab.not rfl) rfl ?_))))) | (with_reducible refine Tr.next ?_) | (with_reducible refine Tr.seq ?_) | (with_reducible refine Tr.region ?_) | (with_reducible refine Tr.nil ?_) | ((refine Tr.guard_l rfl rfl rfl (by first | (with_reducible rfl) | (with_reducible assumption) | (with_reducible exact Bool.not_true) | (with_reducible exact Bool.not_false)) ?_); (first | ((with_reducible refine Knd.move ?_); (refine Exec.stab rfl (Stab.move rfl) rfl ?_)) | ((with_reducible refine Knd.len ?_); ((refine Exec.stab rfl (Stab.len rfl (tysOk.get rfl) rfl) rfl ?_))) | ((with_reducible refine Knd.binOp ?_); ((refine Exec.stab rfl (Stab.int rfl rfl rfl) rfl ?_))))) | (refine Tr.guard_n' rfl rfl rfl (by first | (with_reducible assumption) | (with_reducible rfl) | (with_reducible exact (not_not_intro rfl)) | omega) rfl rfl ?_) | (with_reducible refine Tr.ret ?_) | (with_reducible refine Tr.then_ret ?_) | (refine Tr.cond_bt rfl (by first | (with_reducible rfl) | (with_reducible assumption) | (with_reducible exact Bool.not_true) | (with_reducible exact Bool.not_false)) ?_))
    (refine Tr.done (by first | exact .inl rfl | exact .inr rfl) rfl (by repeat (first | exact RVs.nil | (apply RVs.cons; (exact RV.tmp rfl)))) (by first | exact Mem.le.refl _ | assumption) (by exact ⟨[], rfl⟩) ⟨rfl, ?_⟩)
    rfl
  by_cases ha80 : 80 < am.length
  · repeat (first | ((with_reducible refine Tr.step rfl ?_); (first | ((with_reducible refine Knd.move ?_); (refine Exec.stab rfl (Stab.move rfl) rfl ?_)) | ((with_reducible refine Knd.assign ?_); (refine Exec.stab rfl (Stab.assign rfl) rfl ?_)) | ((with_reducible refine Knd.pick ?_); (first | (refine Exec.stab rfl (Stab.pick_f rfl (by first | (with_reducible rfl) | (with_reducible assumption) | (with_reducible exact Bool.not_true) | (with_reducible exact Bool.not_false)) rfl) rfl ?_) | (refine Exec.stab rfl (Stab.pick_fd rfl (by first | (with_reducible assumption) | (with_reducible rfl) | (with_reducible exact (not_not_intro rfl)) | omega) rfl) rfl ?_))) | ((with_reducible refine Knd.unOp ?_); ((refine Exec.stab rfl (Stab.not rfl) rfl ?_))))) | (with_reducible refine Tr.next ?_) | (with_reducible refine Tr.seq ?_) | (with_reducible refine Tr.region ?_) | (with_reducible refine Tr.nil ?_) | ((refine Tr.guard_l rfl rfl rfl (by first | (with_reducible rfl) | (with_reducible assumption) | (with_reducible exact Bool.not_true) | (with_reducible exact Bool.not_false)) ?_); (first | ((with_reducible refine Knd.move ?_); (refine Exec.stab rfl (Stab.move rfl) rfl ?_)) | ((with_reducible refine Knd.len ?_); ((refine Exec.stab rfl (Stab.len rfl (tysOk.get rfl) rfl) rfl ?_))) | ((with_reducible refine Knd.binOp ?_); ((refine Exec.stab rfl (Stab.int rfl rfl rfl) rfl ?_))))) | ((refine Tr.guard_y' rfl rfl rfl (by first | (with_reducible assumption) | (with_reducible rfl) | (with_reducible exact (not_not_intro rfl)) | omega) ?_); (first | ((with_reducible refine Knd.move ?_); (refine Exec.stab rfl (Stab.move rfl) rfl ?_)) | ((with_reducible refine Knd.len ?_); ((refine Exec.stab rfl (Stab.len rfl (tysOk.get rfl) rfl) rfl ?_))) | ((with_reducible refine Knd.binOp ?_); ((refine Exec.stab rfl (Stab.int rfl rfl rfl) rfl ?_))))) | (with_reducible refine Tr.ret ?_) | (with_reducible refine Tr.then_ret ?_) | (refine Tr.cond_t rfl (by first | (with_reducible assumption) | (with_reducible rfl) | (with_reducible exact (not_not_intro rfl)) | omega) ?_))
    (refine Tr.done (by first | exact .inl rfl | exact .inr rfl) rfl (by repeat (first | exact RVs.nil | (apply RVs.cons; (exact RV.tmp rfl)))) (by first | exact Mem.le.refl _ | assumption) (by exact ⟨[], rfl⟩) ⟨rfl, ?_⟩)
    rfl
  repeat (first | ((with_reducible refine Tr.step rfl ?_); (first | ((with_reducible refine Knd.move ?_); (refine Exec.stab rfl (Stab.move rfl) rfl ?_)) | ((with_reducible refine Knd.pick ?_); (first | (refine Exec.stab rfl (Stab.pick_f rfl (by first | (with_reducible rfl) | (with_reducible assumption) | (with_reducible exact Bool.not_true) | (with_reducible exact Bool.not_false)) rfl) rfl ?_) | (refine Exec.stab rfl (Stab.pick_fd rfl (by first | (with_reducible assumption) | (with_reducible rfl) | (with_reducible exact (not_not_intro rfl)) | omega) rfl) rfl ?_))) | ((with_reducible refine Knd.unOp ?_); ((refine Exec.stab rfl (Stab.not rfl) rfl ?_))))) | (with_reducible refine Tr.next ?_) | (with_reducible refine Tr.seq ?_) | (with_reducible refine Tr.region ?_) | (with_reducible refine Tr.nil ?_) | ((refine Tr.guard_l rfl rfl rfl (by first | (with_reducible rfl) | (with_reducible assumption) | (with_reducible exact Bool.not_true) | (with_reducible exact Bool.not_false)) ?_); (first | ((with_reducible refine Knd.move ?_); (refine Exec.stab rfl (Stab.move rfl) rfl ?_)) | ((with_reducible refine Knd.len ?_); ((refine Exec.stab rfl (Stab.len rfl (tysOk.get rfl) rfl) rfl ?_))) | ((with_reducible refine Knd.binOp ?_); ((refine Exec.stab rfl (Stab.int rfl rfl rfl) rfl ?_))))) | ((refine Tr.guard_y' rfl rfl rfl (by first | (with_reducible assumption) | (with_reducible rfl) | (with_reducible exact (not_not_intro rfl)) | omega) ?_); (first | ((with_reducible refine Knd.move ?_); (refine Exec.stab rfl (Stab.move rfl) rfl ?_)) | ((with_reducible refine Knd.len ?_); ((refine Exec.stab rfl (Stab.len rfl (tysOk.get rfl) rfl) rfl ?_))) | ((with_reducible refine Knd.binOp ?_); ((refine Exec.stab rfl (Stab.int rfl rfl rfl) rfl ?_))))) | (with_reducible refine Tr.skip ?_) | (refine Tr.cond_f rfl (by first | (with_reducible assumption) | (with_reducible rfl) | (with_reducible exact (not_not_intro rfl)) | omega) ?_))
  ((refine Tr.step rfl ?_)); refine Exec.call0 rfl (check_fn M1 A0 A1 A2 A3 c0 c1 c2 c3 fits sup need am hf1 (hs.mono RI.mono hm1) (hn.mono RI.mono hm1) (ha.mono RRowI.mono hm1) rs rn) rfl ?_
  rintro r1 _ - ⟨hr1, rfl⟩
  repeat (((with_reducible refine Tr.step rfl ?_); (((with_reducible refine Knd.move ?_); (refine Exec.stab rfl (Stab.move rfl) rfl ?_)))))
  have hc2 := rCheck_fn M1 A0 A1 A2 A3 c0 c1 c2 c3 fits sup need am hf1 (hs.mono RI.mono hm1) (hn.mono RI.mono hm1) (ha.mono RRowI.mono hm1)
  have hu1 := cut_fn M1 A0 A1 A2 A4 c0 c1 c2 c4 fits sup need l hf1 (hs.mono RI.mono hm1) (hn.mono RI.mono hm1) (hl.mono RI.mono hm1) rs rn
  have hu2 := rCut_fn M1 A0 A1 A2 A4 c0 c1 c2 c4 fits sup need l hf1 (hs.mono RI.mono hm1) (hn.mono RI.mono hm1) (hl.mono RI.mono hm1)
  obtain ⟨b, e, rfl, hx⟩ : ∃ (b : Bool) (e : Int), r1 = .tuple #[.bool b, .int .i64 e] ∧ ∀ s, CheckR fits sup need am s → s = .tuple #[.bool b, .int .i64 e] := by
    obtain ⟨b, e, rfl, -⟩ := hr1.same hr1
    exact ⟨b, e, rfl, fun s hs => by
      obtain ⟨b', e', h1, h2⟩ := hr1.same hs
      rw [h2, ← h1]⟩
  repeat (first | ((with_reducible refine Tr.step rfl ?_); (first | ((with_reducible refine Knd.move ?_); (refine Exec.stab rfl (Stab.move rfl) rfl ?_)) | ((with_reducible refine Knd.assign ?_); (refine Exec.stab rfl (Stab.assign rfl) rfl ?_)) | ((with_reducible refine Knd.extract ?_); (refine Exec.stab rfl (Stab.extract rfl rfl) rfl ?_)))) | (with_reducible refine Tr.next ?_) | (with_reducible refine Tr.seq ?_) | (with_reducible refine Tr.region ?_) | (with_reducible refine Tr.nil ?_))
  ((refine Tr.step rfl ?_))
  refine Exec.call0 rfl hc2 rfl ?_
  rintro r2 _ - ⟨hr2, rfl⟩
  obtain rfl := hx r2 hr2
  repeat (first | ((with_reducible refine Tr.step rfl ?_); (first | ((with_reducible refine Knd.move ?_); (refine Exec.stab rfl (Stab.move rfl) rfl ?_)) | ((with_reducible refine Knd.assign ?_); (refine Exec.stab rfl (Stab.assign rfl) rfl ?_)) | ((with_reducible refine Knd.extract ?_); (refine Exec.stab rfl (Stab.extract rfl rfl) rfl ?_)))) | (with_reducible refine Tr.next ?_) | (with_reducible refine Tr.seq ?_) | (with_reducible refine Tr.region ?_) | (with_reducible refine Tr.nil ?_))
  ((refine Tr.step rfl ?_))
  refine Exec.call0 rfl hu1 rfl ?_
  rintro r3 _ - ⟨hr3, rfl⟩
  obtain ⟨b', e', rfl, hy⟩ : ∃ (b : Bool) (e : Int), r3 = .tuple #[.bool b, .int .i64 e] ∧ ∀ s, CutR fits sup need l s → s = .tuple #[.bool b, .int .i64 e] := by
    obtain ⟨b, e, rfl, -⟩ := hr3.same hr3
    exact ⟨b, e, rfl, fun s hs => by
      obtain ⟨b', e', h1, h2⟩ := hr3.same hs
      rw [h2, ← h1]⟩
  repeat (first | ((with_reducible refine Tr.step rfl ?_); (first | ((with_reducible refine Knd.move ?_); (refine Exec.stab rfl (Stab.move rfl) rfl ?_)) | ((with_reducible refine Knd.assign ?_); (refine Exec.stab rfl (Stab.assign rfl) rfl ?_)) | ((with_reducible refine Knd.extract ?_); (refine Exec.stab rfl (Stab.extract rfl rfl) rfl ?_)))) | (with_reducible refine Tr.next ?_) | (with_reducible refine Tr.seq ?_) | (with_reducible refine Tr.region ?_) | (with_reducible refine Tr.nil ?_))
  ((refine Tr.step rfl ?_))
  refine Exec.call0 rfl hu2 rfl ?_
  rintro r4 _ - ⟨hr4, rfl⟩
  obtain rfl := hy r4 hr4
  cases b
  · cases b'
    · repeat (first | ((with_reducible refine Tr.step rfl ?_); (first | ((with_reducible refine Knd.move ?_); (refine Exec.stab rfl (Stab.move rfl) rfl ?_)) | ((with_reducible refine Knd.assign ?_); (refine Exec.stab rfl (Stab.assign rfl) rfl ?_)) | ((with_reducible refine Knd.binOp ?_); ((refine Exec.stab rfl (Stab.booleq rfl rfl (tysOk.get rfl) rfl) rfl ?_))) | ((with_reducible refine Knd.pick ?_); ((refine Exec.stab rfl (Stab.pick_td rfl (by first | (with_reducible assumption) | (with_reducible rfl) | (with_reducible exact (not_not_intro rfl)) | omega) rfl) rfl ?_))) | ((with_reducible refine Knd.extract ?_); (refine Exec.stab rfl (Stab.extract rfl rfl) rfl ?_)))) | (with_reducible refine Tr.next ?_) | (with_reducible refine Tr.seq ?_) | (with_reducible refine Tr.region ?_) | (with_reducible refine Tr.nil ?_) | ((refine Tr.guard_y rfl rfl rfl (by first | (with_reducible assumption) | (with_reducible rfl) | (with_reducible exact (not_not_intro rfl)) | omega) ?_); (first | ((with_reducible refine Knd.move ?_); (refine Exec.stab rfl (Stab.move rfl) rfl ?_)) | ((with_reducible refine Knd.binOp ?_); (first | (refine Exec.stab rfl (Stab.int rfl rfl rfl) rfl ?_) | (refine Exec.stab rfl (Stab.booleq rfl rfl (tysOk.get rfl) rfl) rfl ?_))))) | (with_reducible refine Tr.ret ?_))
      (refine Tr.done (by first | exact .inl rfl | exact .inr rfl) rfl (by repeat (first | exact RVs.nil | (apply RVs.cons; (exact RV.tmp rfl)))) (by first | exact Mem.le.refl _ | assumption) (by exact ⟨[], rfl⟩) ⟨rfl, ?_⟩)
      show Value.bool (decide _) = Value.bool true
      simp
    · repeat (first | ((with_reducible refine Tr.step rfl ?_); (first | ((with_reducible refine Knd.move ?_); (refine Exec.stab rfl (Stab.move rfl) rfl ?_)) | ((with_reducible refine Knd.assign ?_); (refine Exec.stab rfl (Stab.assign rfl) rfl ?_)) | ((with_reducible refine Knd.binOp ?_); ((refine Exec.stab rfl (Stab.booleq rfl rfl (tysOk.get rfl) rfl) rfl ?_))) | ((with_reducible refine Knd.pick ?_); ((refine Exec.stab rfl (Stab.pick_td rfl (by first | (with_reducible assumption) | (with_reducible rfl) | (with_reducible exact (not_not_intro rfl)) | omega) rfl) rfl ?_))) | ((with_reducible refine Knd.extract ?_); (refine Exec.stab rfl (Stab.extract rfl rfl) rfl ?_)))) | (with_reducible refine Tr.next ?_) | (with_reducible refine Tr.seq ?_) | (with_reducible refine Tr.region ?_) | (with_reducible refine Tr.nil ?_) | ((refine Tr.guard_y rfl rfl rfl (by first | (with_reducible assumption) | (with_reducible rfl) | (with_reducible exact (not_not_intro rfl)) | omega) ?_); (first | ((with_reducible refine Knd.move ?_); (refine Exec.stab rfl (Stab.move rfl) rfl ?_)) | ((with_reducible refine Knd.binOp ?_); (first | (refine Exec.stab rfl (Stab.int rfl rfl rfl) rfl ?_) | (refine Exec.stab rfl (Stab.booleq rfl rfl (tysOk.get rfl) rfl) rfl ?_))))) | (with_reducible refine Tr.ret ?_))
      (refine Tr.done (by first | exact .inl rfl | exact .inr rfl) rfl (by repeat (first | exact RVs.nil | (apply RVs.cons; (exact RV.tmp rfl)))) (by first | exact Mem.le.refl _ | assumption) (by exact ⟨[], rfl⟩) ⟨rfl, ?_⟩)
      show Value.bool (decide _) = Value.bool true
      simp
  · cases b'
    · repeat (first | ((with_reducible refine Tr.step rfl ?_); (first | ((with_reducible refine Knd.move ?_); (refine Exec.stab rfl (Stab.move rfl) rfl ?_)) | ((with_reducible refine Knd.assign ?_); (refine Exec.stab rfl (Stab.assign rfl) rfl ?_)) | ((with_reducible refine Knd.binOp ?_); ((refine Exec.stab rfl (Stab.booleq rfl rfl (tysOk.get rfl) rfl) rfl ?_))) | ((with_reducible refine Knd.pick ?_); ((refine Exec.stab rfl (Stab.pick_td rfl (by first | (with_reducible assumption) | (with_reducible rfl) | (with_reducible exact (not_not_intro rfl)) | omega) rfl) rfl ?_))) | ((with_reducible refine Knd.extract ?_); (refine Exec.stab rfl (Stab.extract rfl rfl) rfl ?_)))) | (with_reducible refine Tr.next ?_) | (with_reducible refine Tr.seq ?_) | (with_reducible refine Tr.region ?_) | (with_reducible refine Tr.nil ?_) | ((refine Tr.guard_y rfl rfl rfl (by first | (with_reducible assumption) | (with_reducible rfl) | (with_reducible exact (not_not_intro rfl)) | omega) ?_); (first | ((with_reducible refine Knd.move ?_); (refine Exec.stab rfl (Stab.move rfl) rfl ?_)) | ((with_reducible refine Knd.binOp ?_); (first | (refine Exec.stab rfl (Stab.int rfl rfl rfl) rfl ?_) | (refine Exec.stab rfl (Stab.booleq rfl rfl (tysOk.get rfl) rfl) rfl ?_))))) | (with_reducible refine Tr.ret ?_))
      (refine Tr.done (by first | exact .inl rfl | exact .inr rfl) rfl (by repeat (first | exact RVs.nil | (apply RVs.cons; (exact RV.tmp rfl)))) (by first | exact Mem.le.refl _ | assumption) (by exact ⟨[], rfl⟩) ⟨rfl, ?_⟩)
      show Value.bool (decide _) = Value.bool true
      simp
    · repeat (first | ((with_reducible refine Tr.step rfl ?_); (first | ((with_reducible refine Knd.move ?_); (refine Exec.stab rfl (Stab.move rfl) rfl ?_)) | ((with_reducible refine Knd.assign ?_); (refine Exec.stab rfl (Stab.assign rfl) rfl ?_)) | ((with_reducible refine Knd.binOp ?_); ((refine Exec.stab rfl (Stab.booleq rfl rfl (tysOk.get rfl) rfl) rfl ?_))) | ((with_reducible refine Knd.pick ?_); ((refine Exec.stab rfl (Stab.pick_td rfl (by first | (with_reducible assumption) | (with_reducible rfl) | (with_reducible exact (not_not_intro rfl)) | omega) rfl) rfl ?_))) | ((with_reducible refine Knd.extract ?_); (refine Exec.stab rfl (Stab.extract rfl rfl) rfl ?_)))) | (with_reducible refine Tr.next ?_) | (with_reducible refine Tr.seq ?_) | (with_reducible refine Tr.region ?_) | (with_reducible refine Tr.nil ?_) | ((refine Tr.guard_y rfl rfl rfl (by first | (with_reducible assumption) | (with_reducible rfl) | (with_reducible exact (not_not_intro rfl)) | omega) ?_); (first | ((with_reducible refine Knd.move ?_); (refine Exec.stab rfl (Stab.move rfl) rfl ?_)) | ((with_reducible refine Knd.binOp ?_); (first | (refine Exec.stab rfl (Stab.int rfl rfl rfl) rfl ?_) | (refine Exec.stab rfl (Stab.booleq rfl rfl (tysOk.get rfl) rfl) rfl ?_))))) | (with_reducible refine Tr.ret ?_))
      (refine Tr.done (by first | exact .inl rfl | exact .inr rfl) rfl (by repeat (first | exact RVs.nil | (apply RVs.cons; (exact RV.tmp rfl)))) (by first | exact Mem.le.refl _ | assumption) (by exact ⟨[], rfl⟩) ⟨rfl, ?_⟩)
      show Value.bool (decide _) = Value.bool true
      simp
end Go.Proofs.Ytmioocddmlfboaa
/-
  Matching: how the arguments of the laws read.
  Conditions: none.
-/
namespace Go.Proofs.Ytmioocddmlfboaa
open Go Bf
open Go.ChangeShapes Go.WideShapes Go.ChangeAt Go.RowKit
theorem SlOf.imp {α : Type} {sz : Nat} {R R' : Mem → List Value → α → Prop} {M : Mem} {v : Value} {xs : List α} (h : SlOf sz R M v xs) (hR : ∀ c x, x ∈ xs → R M c x → R' M c x) : SlOf sz R' M v xs := by
  obtain ⟨A, c, cells, h1, h2, h3, h4, h5, h6⟩ := h
  exact ⟨A, c, cells, h1, h2, h3, h4, h5, fun i x hx => hR _ x (List.mem_of_getElem? hx) (h6 i x hx)⟩
section
variable {H : Type} {enc : TypeId × Value → H} {W : World} {base : Nat} {v : Value}
theorem u3 : Try.prog.underlying 3 = some (.int .i64) := (tysOk.get (t := 3) rfl).1
theorem u4 : Try.prog.underlying 4 = some .bool := (tysOk.get (t := 4) rfl).1
theorem u22 : Try.prog.underlying 22 = some (.slice 43) := (tysOk.get (t := 22) rfl).1
theorem u23 : Try.prog.underlying 23 = some (.slice 3) := (tysOk.get (t := 23) rfl).1
theorem u24 : Try.prog.underlying 24 = some (.slice 23) := (tysOk.get (t := 24) rfl).1
theorem u43 : Try.prog.underlying 43 = some (.slice 4) := (tysOk.get (t := 43) rfl).1
theorem c3 : Try.prog.cellsOf 3 = 1 := by kernel_rfl
theorem c4 : Try.prog.cellsOf 4 = 1 := by kernel_rfl
theorem c23 : Try.prog.cellsOf 23 = 1 := by kernel_rfl
theorem c43 : Try.prog.cellsOf 43 = 1 := by kernel_rfl
theorem int_bounds {n : Int} (hw : (Lit.int .i64 n).wf = true) : -9223372036854775808 ≤ n ∧ n ≤ 9223372036854775807 := by
  have hmin : IntKind.i64.min = -9223372036854775808 := by decide
  have hmax : IntKind.i64.max = 9223372036854775807 := by decide
  simpa [Lit.wf, hmin, hmax] using hw
theorem arg_int (h : Arg enc Try.prog W base 3 v) : ∃ a : Int, v = .int .i64 a ∧ -9223372036854775808 ≤ a ∧ a ≤ 9223372036854775807 := by
  obtain ⟨k0, f0, x, g0⟩ := h
  obtain ⟨n, rfl⟩ := okWide_int u3 k0
  obtain ⟨m, e, hw⟩ := read_int u3 g0
  simp [Value.cells] at e
  subst e
  exact ⟨n, rfl, int_bounds hw⟩
theorem u45 : Try.prog.underlying 45 = some (.int .u16) := (tysOk.get (t := 45) rfl).1
theorem arg_u16 (h : Arg enc Try.prog W base 45 v) : ∃ a : Nat, v = .int .u16 (a : Int) ∧ a < 65536 := by
  obtain ⟨k0, f0, x, g0⟩ := h
  obtain ⟨n, rfl⟩ := okWide_int u45 k0
  obtain ⟨m, e, hw⟩ := read_int u45 g0
  simp [Value.cells] at e
  subst e
  have hmin : IntKind.u16.min = 0 := by decide
  have hmax : IntKind.u16.max = 65535 := by decide
  have hb : 0 ≤ n ∧ n ≤ 65535 := by simpa [Lit.wf, hmin, hmax] using hw
  exact ⟨n.toNat, by rw [Int.toNat_of_nonneg hb.1], by omega⟩
/-- a number that its kind holds -/
def RIb (_ : Mem) (c : List Value) (x : Int) : Prop := c = [.int .i64 x] ∧ -9223372036854775808 ≤ x ∧ x ≤ 9223372036854775807
theorem RIb.ints {M : Mem} {A : Option Addr} {n c : Nat} {l : List Int} (h : SlOf 1 RIb M (.slice A n c) l) : Ints M (.slice A n c) l ∧ I64s l := by
  refine ⟨SlOf.imp h fun c x _ hx => hx.1, fun x hx => ?_⟩
  obtain ⟨i, hi⟩ := List.mem_iff_getElem?.1 hx
  exact (h.elem hi).2.choose_spec.2.2
theorem arg_ints (h : Arg enc Try.prog W base 23 v) : ∃ (l : List Int) (A : Option Addr) (c : Nat), v = .slice A l.length c ∧ Ints (Bf.hp W) (.slice A l.length c) l ∧ I64s l := by
  obtain ⟨k0, f0, x, g0⟩ := h
  obtain ⟨A, len, cap, rfl⟩ := okWide_slice u23 k0
  obtain ⟨l, A', c', e, hs⟩ := read_slOf (R := RIb) u23 c3 (by omega) (fun f cs y hl hy => by
    obtain ⟨n, rfl, hw⟩ := read_int u3 hy
    exact ⟨by intro u hu; simp at hu; subst hu; rfl, n, rfl, int_bounds hw⟩) (by simpa [Value.cells] using g0)
  exact ⟨l, A', c', e, (RIb.ints hs).1, (RIb.ints hs).2⟩
theorem arg_bools (h : Arg enc Try.prog W base 43 v) : ∃ (l : List Bool) (A : Option Addr) (c : Nat), v = .slice A l.length c ∧ Bools (Bf.hp W) (.slice A l.length c) l := by
  obtain ⟨k0, f0, x, g0⟩ := h
  obtain ⟨A, len, cap, rfl⟩ := okWide_slice u43 k0
  exact read_slOf (R := RBo) u43 c4 (by omega) (fun f cs y hl hy => by
    obtain ⟨b, rfl⟩ := read_bool u4 hy
    exact ⟨by intro u hu; simp at hu; subst hu; rfl, b, rfl⟩) (by simpa [Value.cells] using g0)
theorem arg_rows (h : Arg enc Try.prog W base 22 v) : ∃ (l : List (List Bool)) (A : Option Addr) (c : Nat), v = .slice A l.length c ∧ Fits2 (Bf.hp W) (.slice A l.length c) l := by
  obtain ⟨k0, f0, x, g0⟩ := h
  obtain ⟨A, len, cap, rfl⟩ := okWide_slice u22 k0
  exact read_slOf (R := RRowB) u22 c43 (by omega) (fun f cs y hl hy => by
    obtain ⟨a, rfl⟩ := List.length_eq_one_iff.1 hl
    obtain ⟨l, A, c, rfl, hs⟩ := read_slOf (R := RBo) u43 c4 (by omega) (fun f cs y hl hy => by
      obtain ⟨b, rfl⟩ := read_bool u4 hy
      exact ⟨by intro u hu; simp at hu; subst hu; rfl, b, rfl⟩) hy
    exact ⟨by intro u hu; simp at hu; subst hu; rfl, l, A, c, rfl, hs⟩) (by simpa [Value.cells] using g0)
theorem arg_rowsI (h : Arg enc Try.prog W base 24 v) : ∃ (l : List (List Int)) (A : Option Addr) (c : Nat), v = .slice A l.length c ∧ Ints2 (Bf.hp W) (.slice A l.length c) l := by
  obtain ⟨k0, f0, x, g0⟩ := h
  obtain ⟨A, len, cap, rfl⟩ := okWide_slice u24 k0
  exact read_slOf (R := RRowI) u24 c23 (by omega) (fun f cs y hl hy => by
    obtain ⟨a, rfl⟩ := List.length_eq_one_iff.1 hl
    obtain ⟨l, A, c, rfl, hs⟩ := read_slOf (R := RI) u23 c3 (by omega) (fun f cs y hl hy => by
      obtain ⟨n, rfl, hw⟩ := read_int u3 hy
      exact ⟨by intro u hu; simp at hu; subst hu; rfl, n, rfl⟩) hy
    exact ⟨by intro u hu; simp at hu; subst hu; rfl, l, A, c, rfl, hs⟩) (by simpa [Value.cells] using g0)
end
theorem len3 {l : List Value} (h : l.length = 3) : ∃ a b c, l = [a, b, c] := by
  match l, h with
  | [a, b, c], _ => exact ⟨a, b, c, rfl⟩
theorem len4 {l : List Value} (h : l.length = 4) : ∃ a b c d, l = [a, b, c, d] := by
  match l, h with
  | [a, b, c, d], _ => exact ⟨a, b, c, d, rfl⟩
theorem len5 {l : List Value} (h : l.length = 5) : ∃ a b c d e, l = [a, b, c, d, e] := by
  match l, h with
  | [a, b, c, d, e], _ => exact ⟨a, b, c, d, e, rfl⟩
theorem len7 {l : List Value} (h : l.length = 7) : ∃ a b c d e f g, l = [a, b, c, d, e, f, g] := by
  match l, h with
  | [a, b, c, d, e, f, g], _ => exact ⟨a, b, c, d, e, f, g, rfl⟩
theorem ownT' : ownKnob Try.checked.prog.godebug = none := by kernel_rfl
theorem laidT' : laidOutB Try.checked.prog = true := by kernel_rfl
end Go.Proofs.Ytmioocddmlfboaa
/-
  Matching: the row of MatchingCheckSpec.
  Conditions: none.
-/
namespace Go.Proofs.Ytmioocddmlfboaa
open Go Bf
open Go.ChangeShapes Go.WideShapes Go.ChangeAt Go.RowKit
set_option maxRecDepth 100000 in
theorem checkspec_lifted (os : Os) (started : os.Started) (H : Type) (enc : TypeId × Value → H) :
    ReturnsInHanded {} Try.checked os 3 .any (Rows.matchingCheckSpecSpec.pre6 enc Try.prog Try.f3 Rows.matchingCheckSpecRow.domain false) (Rows.matchingCheckSpecSpec.post enc Try.prog Try.f3 false true false false) :=
  lift_true (C := Try.checked) (ts := [22, 23, 23, 24, 23]) (tb := 4) started ownT' (by kernel_rfl) Try.func3
    (ChangeSpec.witness6 (enc := enc) (C := Try.checked) false ⟨#[], #[.slice none 0 0, .slice none 0 0, .slice none 0 0, .slice none 0 0, .slice none 0 0], []⟩ 8 (by kernel_rfl) (by kernel_rfl) (by kernel_rfl) (by kernel_rfl))
    (by rw [Try.params3]) laidT' (by kernel_rfl) rfl (fun ds h => match ds, h with | [_, _, _, _, _], _ => rfl) rfl Try.underlying4
    (fun W base vs hl ha => by
      obtain ⟨v0, v1, v2, v3, v4, rfl⟩ := len5 hl
      obtain ⟨a, aA, ac, rfl, ha_⟩ := arg_rows (ha 0 22 v0 rfl rfl)
      obtain ⟨b, bA, bc, rfl, hb, rb⟩ := arg_ints (ha 1 23 v1 rfl rfl)
      obtain ⟨c, cA, cc, rfl, hc, rc⟩ := arg_ints (ha 2 23 v2 rfl rfl)
      obtain ⟨d, dA, dc, rfl, hd⟩ := arg_rowsI (ha 3 24 v3 rfl rfl)
      obtain ⟨e, eA, ec, rfl, he, re⟩ := arg_ints (ha 4 23 v4 rfl rfl)
      exact checkspec_fn _ aA bA cA dA eA ac bc cc dc ec a b c d e ha_ hb hc hd he rb rc)
theorem matchingCheckSpec_holds : Rows.MatchingCheckSpecSaid :=
  OpenClaim.holds_of_wide 3 Try.f3 rfl rfl rfl rfl rfl rfl rfl ⟨rfl, rfl, rfl, rfl, rfl⟩ rfl rfl rfl rfl rfl (by kernel_rfl) Try.func3 (by kernel_rfl)
    (of_decide_eq_true (by kernel_rfl)) (by unfold Func.isWrapper; first | (rw [if_pos (by decide +kernel)]; kernel_rfl) | (rw [if_neg (by decide +kernel)]; exact ⟨rfl, rfl⟩))
    (fun os started H enc _ => checkspec_lifted os started H enc)
end Go.Proofs.Ytmioocddmlfboaa
