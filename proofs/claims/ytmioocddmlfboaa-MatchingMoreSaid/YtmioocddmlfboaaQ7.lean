/-
  Matching: the row of MatchingMore.
  Conditions: none.
-/
import Derived.Test.YtmioocddmlfboaaBfRow
import Derived.Test.YtmioocddmlfboaaRows
import Derived.ProofKit
import Derived.Test.YtmioocddmlfboaaQ7b
/-
  Matching: the contract of the program's Cut.
  Conditions: none.
-/
namespace Go.Proofs.Ytmioocddmlfboaa
open Go Bf
attribute [local irreducible] Tr Exec Stab HasTy Go.Addr.add IntKind.wrap
/-- the list is strictly ascending and within the requests, up to i -/
def AscTo (m : Nat) (l : List Int) (i : Nat) : Prop := ∀ q x, q < i → l[q]? = some x → 0 ≤ x ∧ x < m ∧ ∀ y, 0 < q → l[q - 1]? = some y → y < x
def cutNeed (need : List Int) (l : List Int) : Int := (l.map fun x => need.getD x.toNat 0).sum
def cutTouch (row : List Bool) (l : List Int) : Bool := l.any fun x => row.getD x.toNat false
def cutHave (fits : List (List Bool)) (sup : List Int) (l : List Int) (i : Nat) : Int := sumN i fun k => if cutTouch (fits.getD k []) l then sup.getD k 0 else 0
def CutP (fits : List (List Bool)) (sup need l : List Int) : Prop := AscTo need.length l l.length ∧ cutHave fits sup l sup.length < cutNeed need l
def CutR (fits : List (List Bool)) (sup need l : List Int) (r : Value) : Prop :=
  (validF fits sup need = false ∧ r = .tuple #[.bool false, .int .i64 300]) ∨ (Vld fits sup need ∧ ∃ b : Bool, r = .tuple #[.bool b, .int .i64 0] ∧ (b = true ↔ CutP fits sup need l))
theorem CutR.no {fits : List (List Bool)} {sup need l : List Int} (hv : Vld fits sup need) (h : ¬ AscTo need.length l l.length) : CutR fits sup need l (.tuple #[.bool false, .int .i64 0]) := .inr ⟨hv, false, rfl, by simp [CutP, h]⟩
theorem AscTo.step {m i : Nat} {l : List Int} {x : Int} (h : AscTo m l i) (hx : l[i]? = some x) (h1 : 0 ≤ x ∧ x < m) (h2 : ∀ y, 0 < i → l[i - 1]? = some y → y < x) : AscTo m l (i + 1) := fun q z hq hz => by
  by_cases e : q = i
  · subst e
    rw [hx] at hz
    cases hz
    exact ⟨h1.1, h1.2, h2⟩
  · exact h q z (by omega) hz
theorem AscTo.ge {m : Nat} {l : List Int} : ∀ {i : Nat}, AscTo m l i → i ≤ l.length → ∀ x, 0 < i → l[i - 1]? = some x → (i : Int) - 1 ≤ x ∧ x < m
  | 0, _, _, _, h, _ => by omega
  | i + 1, h, hl, x, _, hx => by
    simp only [Nat.add_sub_cancel] at hx
    have h1 := h i x (by omega) hx
    by_cases e : i = 0
    · subst e; exact ⟨by simpa using h1.1, h1.2.1⟩
    · obtain ⟨y, hy⟩ := get_of_lt (xs := l) (i := i - 1) (by omega)
      have h2 := AscTo.ge (i := i) (fun q z hq hz => h q z (by omega) hz) (by omega) y (by omega) hy
      have h3 := h1.2.2 y (by omega) hy
      exact ⟨by push_cast; omega, h1.2.1⟩
theorem AscTo.count {m i : Nat} {l : List Int} (h : AscTo m l i) (hl : i ≤ l.length) : i ≤ m := by
  by_cases e : i = 0
  · omega
  · obtain ⟨y, hy⟩ := get_of_lt (xs := l) (i := i - 1) (by omega)
    have := h.ge hl y (by omega) hy
    omega
theorem cutNeed_succ {need l : List Int} {i : Nat} {x : Int} (hx : l[i]? = some x) : cutNeed need (l.take (i + 1)) = cutNeed need (l.take i) + need.getD x.toNat 0 := by
  unfold cutNeed
  rw [List.take_add_one, hx]
  simp
theorem cutNeed_rng {need : List Int} (h : ∀ x ∈ need, 0 ≤ x ∧ x ≤ 1048576) : ∀ (l : List Int), 0 ≤ cutNeed need l ∧ cutNeed need l ≤ 1048576 * l.length
  | [] => by simp [cutNeed]
  | x :: l => by
    have h1 := cutNeed_rng h l
    have h2 := getD_rng h x.toNat
    have e : cutNeed need (x :: l) = need.getD x.toNat 0 + cutNeed need l := rfl
    rw [e, List.length_cons]
    push_cast
    omega
theorem cutHave_rng {fits : List (List Bool)} {sup : List Int} (h : ∀ x ∈ sup, 0 ≤ x ∧ x ≤ 1048576) (l : List Int) (i : Nat) : 0 ≤ cutHave fits sup l i ∧ cutHave fits sup l i ≤ 1048576 * i := sum_small (fun k _ => by
  have := getD_rng h k
  split
  · exact this
  · exact ⟨Int.le_refl _, by decide⟩)
theorem cutHave_succ (fits : List (List Bool)) (sup l : List Int) (i : Nat) : cutHave fits sup l (i + 1) = cutHave fits sup l i + if cutTouch (fits.getD i []) l then sup.getD i 0 else 0 := rfl
set_option maxHeartbeats 1000000 in
theorem cut1_fn (M : Mem) (rb : Nat) (B : Option Addr) (k : Nat) (row : List Bool) (hb : (box rb 43 [.slice B row.length k]).ok M) (hB : Bools M (.slice B row.length k) row) (x : Int) (h0 : 0 ≤ x) (h1 : x < row.length) :
    Fn0 Try.prog 28 ([.int .i64 x] ++ [.pointer (some ⟨rb, 0, none⟩)]) M (fun r M' => r = .bool (row.getD x.toNat false) ∧ M = M') := by
  obtain ⟨n, rfl⟩ : ∃ n : Nat, x = (n : Int) := ⟨x.toNat, by omega⟩
  obtain ⟨v, hv⟩ := get_of_lt (xs := row) (i := n) (by omega)
  obtain ⟨hA, hat⟩ := hB.at hv
  have hl := hB.len_le
  have hrow := Row.of_box (n := 1) (sz := 1) hb (by simp) (by simp [Value.oneCell'])
  have hat2 := (hrow.pos (by decide)).2
  refine Fn.intro Try.func28 rfl rfl Try.ntmps28 rfl fun E F => ?_
  simp only [List.cons_append, List.nil_append]
  repeat (first | ((with_reducible refine Tr.step rfl ?_); (first | ((with_reducible refine Knd.move ?_); (refine Exec.stab rfl (Stab.move rfl) rfl ?_)) | ((with_reducible refine Knd.assign ?_); (refine Exec.stab rfl (Stab.assign rfl) rfl ?_)) | ((with_reducible refine Knd.load ?_); ((refine Exec.stab rfl (Stab.loadM rfl (tysOk.get rfl) rfl (by assumption)) rfl ?_))) | ((with_reducible refine Knd.indexAddr ?_); ((refine Exec.stab rfl (Stab.indexAddr rfl rfl (tysOk.get rfl) rfl (tysOk.get rfl) rfl (by omega) (by omega) (by first | rfl | assumption)) rfl ?_))))) | (with_reducible refine Tr.next ?_) | (with_reducible refine Tr.seq ?_) | (with_reducible refine Tr.region ?_) | (with_reducible refine Tr.nil ?_) | (with_reducible refine Tr.ret ?_))
  (refine Tr.done (by first | exact .inl rfl | exact .inr rfl) rfl (by repeat (first | exact RVs.nil | (apply RVs.cons; (exact RV.tmp rfl)))) (by first | exact Mem.le.refl _ | assumption) (by exact ⟨[], rfl⟩) ⟨rfl, ?_⟩)
  exact ⟨by rw [Int.toNat_natCast, getD_of hv]; rfl, rfl⟩
theorem touch_lend (M : Mem) (rb : Nat) (B : Option Addr) (k : Nat) (row : List Bool) (hB : Bools M (.slice B row.length k) row) (A : Option Addr) (c : Nat) (l : List Int) (hl : Ints M (.slice A l.length c) l) (hx : ∀ x ∈ l, 0 ≤ x ∧ x < row.length) :
    Bf.Fn Try.prog 27 [.slice A l.length c, .func (.func 28) #[] #[.pointer (some ⟨rb, 0, none⟩)]] M [box rb 43 [.slice B row.length k]] (fun r M' A' => A' = [box rb 43 [.slice B row.length k]] ∧ M = M' ∧ r = .bool (cutTouch row l)) :=
  Fn.lend (rs := [box rb 43 [.slice B row.length k]]) (R := fun r => r = .bool (cutTouch row l)) (clone_ok _ _ _ _ _ _ (containsFunc_fn M none 0 [] ⟨_, 0, [], rfl, by simp, by simp, by simp, Row.nil _ _ _, by simp⟩ 0 [] (fun _ => false) (by simp))) (fun M' hm hok =>
    containsFunc_fn M' A c l (hl.mono RI.mono hm) 28 [.pointer (some ⟨rb, 0, none⟩)] (fun x => row.getD x.toNat false) (fun x hxl => cut1_fn M' rb B k row (hok _ (by simp)) (hB.mono RBo.mono hm) x (hx x hxl).1 (hx x hxl).2))
set_option maxHeartbeats 8000000 in
set_option maxRecDepth 20000 in
theorem cut_fn (M : Mem) (A0 A1 A2 A3 : Option Addr) (c0 c1 c2 c3 : Nat) (fits : List (List Bool)) (sup need l : List Int) (hf : Fits2 M (.slice A0 fits.length c0) fits) (hs : Ints M (.slice A1 sup.length c1) sup) (hn : Ints M (.slice A2 need.length c2) need) (hl : Ints M (.slice A3 l.length c3) l) (rs : I64s sup) (rn : I64s need) :
    Fn0 Try.prog 13 [.slice A0 fits.length c0, .slice A1 sup.length c1, .slice A2 need.length c2, .slice A3 l.length c3] M (fun r M' => CutR fits sup need l r ∧ M = M') := by
  have la := hl.len_le
  refine Fn.intro Try.func13 rfl rfl Try.ntmps13 rfl fun E F => ?_
  repeat (first | ((with_reducible refine Tr.step rfl ?_); (first | ((with_reducible refine Knd.move ?_); (refine Exec.stab rfl (Stab.move rfl) rfl ?_)) | ((with_reducible refine Knd.assign ?_); (refine Exec.stab rfl (Stab.assign rfl) rfl ?_)))) | (with_reducible refine Tr.next ?_) | (with_reducible refine Tr.seq ?_) | (with_reducible refine Tr.region ?_) | (with_reducible refine Tr.nil ?_))
  ((refine Tr.step rfl ?_)); refine Exec.call0 rfl (valid_fn M A0 A1 A2 c0 c1 c2 fits sup need hf hs hn rs rn) rfl ?_
  rintro _ _ _ ⟨rfl, rfl⟩
  cases hvv : validF fits sup need
  · repeat (first | ((with_reducible refine Tr.step rfl ?_); (first | ((with_reducible refine Knd.assign ?_); (refine Exec.stab rfl (Stab.assign rfl) rfl ?_)) | ((with_reducible refine Knd.unOp ?_); ((refine Exec.stab rfl (Stab.not rfl) rfl ?_))))) | (with_reducible refine Tr.next ?_) | (with_reducible refine Tr.seq ?_) | (with_reducible refine Tr.region ?_) | (with_reducible refine Tr.nil ?_) | (with_reducible refine Tr.ret ?_) | (with_reducible refine Tr.then_ret ?_) | (refine Tr.cond_bt rfl (by first | (with_reducible rfl) | (with_reducible assumption) | (with_reducible exact Bool.not_true) | (with_reducible exact Bool.not_false)) ?_))
    (refine Tr.done (by first | exact .inl rfl | exact .inr rfl) rfl (by repeat (first | exact RVs.nil | (apply RVs.cons; (exact RV.tmp rfl)))) (by first | exact Mem.le.refl _ | assumption) (by exact ⟨[], rfl⟩) ⟨rfl, ?_⟩)
    exact ⟨.inl ⟨hvv, rfl⟩, rfl⟩
  have hv := vld_iff.1 hvv
  have l1 := hv.ls
  have l2 := hv.ln
  have l3 := hv.lf
  repeat (first | ((with_reducible refine Tr.step rfl ?_); (first | ((with_reducible refine Knd.move ?_); (refine Exec.stab rfl (Stab.move rfl) rfl ?_)) | ((with_reducible refine Knd.assign ?_); (refine Exec.stab rfl (Stab.assign rfl) rfl ?_)) | ((with_reducible refine Knd.len ?_); ((refine Exec.stab rfl (Stab.len rfl (tysOk.get rfl) rfl) rfl ?_))) | ((with_reducible refine Knd.unOp ?_); ((refine Exec.stab rfl (Stab.not rfl) rfl ?_))))) | (with_reducible refine Tr.next ?_) | (with_reducible refine Tr.seq ?_) | (with_reducible refine Tr.region ?_) | (with_reducible refine Tr.nil ?_) | (with_reducible refine Tr.skip ?_) | (with_reducible refine Tr.block ?_) | (refine Tr.cond_bf rfl (by first | (with_reducible rfl) | (with_reducible assumption) | (with_reducible exact Bool.not_true) | (with_reducible exact Bool.not_false)) ?_))
  refine Tr.loop (α := Nat × Int) (fun y => ⟨65, [(24, .int .i64 (y.1 : Int)), (23, .int .i64 (l.length : Int)), (22, .slice A3 l.length c3), (12, .int .i64 y.2), (11, .int .i64 0), (10, .int .i64 (cutNeed need (l.take y.1))), (0, .slice A0 fits.length c0), (1, .slice A1 sup.length c1), (2, .slice A2 need.length c2), (3, .slice A3 l.length c3)], [], M, [] ++ F⟩)
    (fun y => y.1 ≤ l.length ∧ AscTo need.length l y.1 ∧ ((y.1 = 0 ∧ y.2 = -1) ∨ (0 < y.1 ∧ l[y.1 - 1]? = some y.2))) (fun y => l.length - y.1) (0, -1) ⟨Nat.zero_le _, fun _ _ h => by omega, .inl ⟨rfl, rfl⟩⟩ (holds_sub (by repeat (first | exact SubFr.nil | refine SubFr.cons rfl ?_)) (by repeat (first | exact DropL.refl | apply DropL.skip))) (fun y hy => ?_)
  obtain ⟨i, last⟩ := y
  obtain ⟨hi, hasc, hlast⟩ := hy
  simp only at hi hasc hlast
  dsimp only
  have hcnt := hasc.count hi
  have hcn := cutNeed_rng hv.rn (l.take i)
  have htl : (l.take i).length = i := by simp; omega
  rw [htl] at hcn
  by_cases hil : i < l.length
  · obtain ⟨x, hx⟩ := get_of_lt hil
    obtain ⟨hA, hat⟩ := hl.at hx
    have hxi := hasc
    have hl0 : -1 ≤ last := by
      rcases hlast with ⟨h1, h2⟩ | ⟨h1, h2⟩
      · omega
      · have := hasc.ge hi last h1 h2; omega
    by_cases hxl : x ≤ last
    · repeat (first | ((with_reducible refine Tr.step rfl ?_); (first | ((with_reducible refine Knd.move ?_); (refine Exec.stab rfl (Stab.move rfl) rfl ?_)) | ((with_reducible refine Knd.assign ?_); (refine Exec.stab rfl (Stab.assign rfl) rfl ?_)) | ((with_reducible refine Knd.load ?_); ((refine Exec.stab rfl (Stab.loadM rfl (tysOk.get rfl) rfl (by assumption)) rfl ?_))) | ((with_reducible refine Knd.binOp ?_); ((refine Exec.stab rfl (Stab.int rfl rfl rfl) rfl ?_))) | ((with_reducible refine Knd.pick ?_); ((refine Exec.stab rfl (Stab.pick_td rfl (by first | (with_reducible assumption) | (with_reducible rfl) | (with_reducible exact (not_not_intro rfl)) | omega) rfl) rfl ?_))) | ((with_reducible refine Knd.indexAddr ?_); ((refine Exec.stab rfl (Stab.indexAddr rfl rfl (tysOk.get rfl) rfl (tysOk.get rfl) rfl (by omega) (by omega) (by first | rfl | assumption)) rfl ?_))))) | (with_reducible refine Tr.next ?_) | (with_reducible refine Tr.seq ?_) | (with_reducible refine Tr.region ?_) | (with_reducible refine Tr.nil ?_) | (refine Tr.guard_n' rfl rfl rfl (by first | (with_reducible assumption) | (with_reducible rfl) | (with_reducible exact (not_not_intro rfl)) | omega) rfl rfl ?_) | (with_reducible refine Tr.skip ?_) | (with_reducible refine Tr.block ?_) | (with_reducible refine Tr.ret ?_) | (with_reducible refine Tr.then_ret ?_) | (with_reducible refine Tr.in_ret ?_) | (refine Tr.cond_bt rfl (by first | (with_reducible rfl) | (with_reducible assumption) | (with_reducible exact Bool.not_true) | (with_reducible exact Bool.not_false)) ?_) | (refine Tr.cond_t rfl (by first | (with_reducible assumption) | (with_reducible rfl) | (with_reducible exact (not_not_intro rfl)) | omega) ?_))
      (refine Tr.done (by first | exact .inl rfl | exact .inr rfl) rfl (by repeat (first | exact RVs.nil | (apply RVs.cons; (exact RV.tmp rfl)))) (by first | exact Mem.le.refl _ | assumption) (by exact ⟨[], rfl⟩) ⟨rfl, ?_⟩)
      refine ⟨CutR.no hv fun h => ?_, rfl⟩
      have h1 := h i x hil hx
      rcases hlast with ⟨h2, h3⟩ | ⟨h2, h3⟩
      · omega
      · have := h1.2.2 last h2 h3; omega
    by_cases hxm : need.length ≤ x
    · repeat (first | ((with_reducible refine Tr.step rfl ?_); (first | ((with_reducible refine Knd.move ?_); (refine Exec.stab rfl (Stab.move rfl) rfl ?_)) | ((with_reducible refine Knd.assign ?_); (refine Exec.stab rfl (Stab.assign rfl) rfl ?_)) | ((with_reducible refine Knd.load ?_); ((refine Exec.stab rfl (Stab.loadM rfl (tysOk.get rfl) rfl (by assumption)) rfl ?_))) | ((with_reducible refine Knd.binOp ?_); ((refine Exec.stab rfl (Stab.int rfl rfl rfl) rfl ?_))) | ((with_reducible refine Knd.pick ?_); ((refine Exec.stab rfl (Stab.pick_fd rfl (by first | (with_reducible assumption) | (with_reducible rfl) | (with_reducible exact (not_not_intro rfl)) | omega) rfl) rfl ?_))) | ((with_reducible refine Knd.indexAddr ?_); ((refine Exec.stab rfl (Stab.indexAddr rfl rfl (tysOk.get rfl) rfl (tysOk.get rfl) rfl (by omega) (by omega) (by first | rfl | assumption)) rfl ?_))))) | (with_reducible refine Tr.next ?_) | (with_reducible refine Tr.seq ?_) | (with_reducible refine Tr.region ?_) | (with_reducible refine Tr.nil ?_) | ((refine Tr.guard_y' rfl rfl rfl (by first | (with_reducible assumption) | (with_reducible rfl) | (with_reducible exact (not_not_intro rfl)) | omega) ?_); (first | ((with_reducible refine Knd.move ?_); (refine Exec.stab rfl (Stab.move rfl) rfl ?_)) | ((with_reducible refine Knd.len ?_); ((refine Exec.stab rfl (Stab.len rfl (tysOk.get rfl) rfl) rfl ?_))) | ((with_reducible refine Knd.binOp ?_); ((refine Exec.stab rfl (Stab.int rfl rfl rfl) rfl ?_))))) | (with_reducible refine Tr.skip ?_) | (with_reducible refine Tr.block ?_) | (with_reducible refine Tr.ret ?_) | (with_reducible refine Tr.then_ret ?_) | (with_reducible refine Tr.in_ret ?_) | (refine Tr.cond_t rfl (by first | (with_reducible assumption) | (with_reducible rfl) | (with_reducible exact (not_not_intro rfl)) | omega) ?_))
      (refine Tr.done (by first | exact .inl rfl | exact .inr rfl) rfl (by repeat (first | exact RVs.nil | (apply RVs.cons; (exact RV.tmp rfl)))) (by first | exact Mem.le.refl _ | assumption) (by exact ⟨[], rfl⟩) ⟨rfl, ?_⟩)
      refine ⟨CutR.no hv fun h => ?_, rfl⟩
      have h1 := h i x hil hx
      omega
    obtain ⟨n, rfl⟩ : ∃ n : Nat, x = (n : Int) := ⟨x.toNat, by omega⟩
    obtain ⟨v, hv1⟩ := get_of_lt (xs := need) (i := n) (by omega)
    obtain ⟨hA2, nat2⟩ := hn.at hv1
    have hvr := hv.rn v (List.mem_of_getElem? hv1)
    have hsu := cutNeed_succ (need := need) hx
    rw [Int.toNat_natCast, getD_of hv1] at hsu
    repeat (first | ((with_reducible refine Tr.step rfl ?_); (first | ((with_reducible refine Knd.move ?_); (refine Exec.stab rfl (Stab.move rfl) rfl ?_)) | ((with_reducible refine Knd.assign ?_); (refine Exec.stab rfl (Stab.assign rfl) rfl ?_)) | ((with_reducible refine Knd.load ?_); ((refine Exec.stab rfl (Stab.loadM rfl (tysOk.get rfl) rfl (by assumption)) rfl ?_))) | ((with_reducible refine Knd.binOp ?_); (first | (refine Exec.stab rfl (Stab.addi rfl rfl (by omega)) rfl ?_) | (refine Exec.stab rfl (Stab.int rfl rfl rfl) rfl ?_))) | ((with_reducible refine Knd.pick ?_); ((refine Exec.stab rfl (Stab.pick_fd rfl (by first | (with_reducible assumption) | (with_reducible rfl) | (with_reducible exact (not_not_intro rfl)) | omega) rfl) rfl ?_))) | ((with_reducible refine Knd.indexAddr ?_); ((refine Exec.stab rfl (Stab.indexAddr rfl rfl (tysOk.get rfl) rfl (tysOk.get rfl) rfl (by omega) (by omega) (by first | rfl | assumption)) rfl ?_))))) | (with_reducible refine Tr.next ?_) | (with_reducible refine Tr.seq ?_) | (with_reducible refine Tr.region ?_) | (with_reducible refine Tr.nil ?_) | ((refine Tr.guard_y' rfl rfl rfl (by first | (with_reducible assumption) | (with_reducible rfl) | (with_reducible exact (not_not_intro rfl)) | omega) ?_); (first | ((with_reducible refine Knd.move ?_); (refine Exec.stab rfl (Stab.move rfl) rfl ?_)) | ((with_reducible refine Knd.len ?_); ((refine Exec.stab rfl (Stab.len rfl (tysOk.get rfl) rfl) rfl ?_))) | ((with_reducible refine Knd.binOp ?_); ((refine Exec.stab rfl (Stab.int rfl rfl rfl) rfl ?_))))) | (with_reducible refine Tr.skip ?_) | (with_reducible refine Tr.block ?_) | (with_reducible refine Tr.in_normal ?_) | (refine Tr.cond_t rfl (by first | (with_reducible assumption) | (with_reducible rfl) | (with_reducible exact (not_not_intro rfl)) | omega) ?_) | (refine Tr.cond_f rfl (by first | (with_reducible assumption) | (with_reducible rfl) | (with_reducible exact (not_not_intro rfl)) | omega) ?_))
    rw [← hsu]
    refine Tr.again (i + 1, (n : Int)) ⟨by simp only; omega, hasc.step hx (by omega) (fun y h1 h2 => ?_), .inr ⟨by simp only; omega, by simpa using hx⟩⟩ (by simp only; omega) (holds_sub (by repeat (first | exact SubFr.nil | refine SubFr.cons rfl ?_)) (by repeat (first | exact DropL.refl | apply DropL.skip)))
    rcases hlast with ⟨h3, h4⟩ | ⟨h3, h4⟩
    · omega
    · rw [h4] at h2; cases h2; omega
  have ei : i = l.length := by omega
  subst ei
  rw [List.take_length] at hcn ⊢
  have hmem : ∀ x ∈ l, 0 ≤ x ∧ x < need.length := fun x hx => by
    obtain ⟨q, hq⟩ := List.mem_iff_getElem?.1 hx
    have := hasc q x (List.getElem?_eq_some_iff.1 hq).1 hq
    exact ⟨this.1, this.2.1⟩
  repeat (first | ((with_reducible refine Tr.step rfl ?_); (first | ((with_reducible refine Knd.move ?_); (refine Exec.stab rfl (Stab.move rfl) rfl ?_)) | ((with_reducible refine Knd.len ?_); ((refine Exec.stab rfl (Stab.len rfl (tysOk.get rfl) rfl) rfl ?_))) | ((with_reducible refine Knd.binOp ?_); ((refine Exec.stab rfl (Stab.int rfl rfl rfl) rfl ?_))))) | (with_reducible refine Tr.next ?_) | (with_reducible refine Tr.seq ?_) | (with_reducible refine Tr.region ?_) | (with_reducible refine Tr.nil ?_) | (with_reducible refine Tr.block ?_) | (with_reducible refine Tr.exit ?_) | (with_reducible refine Tr.then_exit ?_) | ((with_reducible refine Tr.in_exit ?_ ?_); (exact rfl)) | (refine Tr.cond_f rfl (by first | (with_reducible assumption) | (with_reducible rfl) | (with_reducible exact (not_not_intro rfl)) | omega) ?_))
  refine Tr.loop (α := Nat) (fun y => ⟨65, [(47, .int .i64 (y : Int)), (46, .int .i64 (fits.length : Int)), (45, .slice A0 fits.length c0), (11, .int .i64 (cutHave fits sup l y)), (10, .int .i64 (cutNeed need l)), (1, .slice A1 sup.length c1), (3, .slice A3 l.length c3)], [], M, [] ++ F⟩)
    (fun y => y ≤ fits.length) (fun y => fits.length - y) 0 (Nat.zero_le _) (holds_sub (by repeat (first | exact SubFr.nil | refine SubFr.cons rfl ?_)) (by repeat (first | exact DropL.refl | apply DropL.skip))) (fun y hy => ?_)
  have hch := cutHave_rng (fits := fits) hv.rs l y
  by_cases hyn : y < fits.length
  · obtain ⟨frow, hfr⟩ := get_of_lt hyn
    have hfrl := hv.rows frow (List.mem_of_getElem? hfr)
    obtain ⟨hA0, fch, fat, fB, fk, rfl, hfB⟩ := hf.elem hfr
    obtain ⟨s, hs1⟩ := get_of_lt (xs := sup) (i := y) (by omega)
    obtain ⟨hA1, sat⟩ := hs.at hs1
    have hsr := hv.rs s (List.mem_of_getElem? hs1)
    have hsu := cutHave_succ fits sup l y
    rw [getD_of (d := []) hfr, getD_of (d := 0) hs1] at hsu
    repeat (first | ((with_reducible refine Tr.step rfl ?_); (first | ((with_reducible refine Knd.move ?_); (refine Exec.stab rfl (Stab.move rfl) rfl ?_)) | ((with_reducible refine Knd.assign ?_); (refine Exec.stab rfl (Stab.assign rfl) rfl ?_)) | ((with_reducible refine Knd.load ?_); ((refine Exec.stab rfl (Stab.loadM rfl (tysOk.get rfl) rfl (by assumption)) rfl ?_))) | ((with_reducible refine Knd.makeFunc ?_); (refine Exec.stab rfl (Stab.makeFunc rfl rfl) rfl ?_)) | ((with_reducible refine Knd.binOp ?_); ((refine Exec.stab rfl (Stab.int rfl rfl rfl) rfl ?_))) | ((with_reducible refine Knd.store ?_); ((refine Exec.store rfl rfl (tysOk.get rfl) rfl (by first | rfl | assumption) (by repeat (first | exact Upd.here | apply Upd.there)) (by repeat (first | exact SetL.z | apply SetL.s)) ?_))) | ((with_reducible refine Knd.alloc ?_); (first | (refine Exec.alloc (tysOk.get rfl) rfl rfl (fun b => ?_)) | (refine Exec.alloc1 (tysOk.get rfl) rfl rfl rfl (fun b => ?_)))) | ((with_reducible refine Knd.indexAddr ?_); ((refine Exec.stab rfl (Stab.indexAddr rfl rfl (tysOk.get rfl) rfl (tysOk.get rfl) rfl (by omega) (by omega) (by first | rfl | assumption)) rfl ?_))))) | (with_reducible refine Tr.next ?_) | (with_reducible refine Tr.seq ?_) | (with_reducible refine Tr.region ?_) | (with_reducible refine Tr.nil ?_) | (with_reducible refine Tr.skip ?_) | (with_reducible refine Tr.block ?_) | (refine Tr.cond_t rfl (by first | (with_reducible assumption) | (with_reducible rfl) | (with_reducible exact (not_not_intro rfl)) | omega) ?_))
    ((refine Tr.step rfl ?_))
    refine Exec.call (A := [box b 43 [.slice fB frow.length fk]]) rfl (touch_lend M b fB fk frow hfB A3 c3 l hl (fun x hx => by rw [hfrl]; exact hmem x hx)) (List.Perm.refl _) rfl ?_
    rintro _ _ _ _ ⟨rfl, rfl, rfl⟩
    cases ht : cutTouch frow l
    · rw [ht] at hsu
      simp only [Bool.false_eq_true, if_false, Int.add_zero] at hsu
      repeat (first | ((with_reducible refine Tr.step rfl ?_); (first | ((with_reducible refine Knd.move ?_); (refine Exec.stab rfl (Stab.move rfl) rfl ?_)) | ((with_reducible refine Knd.binOp ?_); ((refine Exec.stab rfl (Stab.addi rfl rfl (by omega)) rfl ?_))))) | (with_reducible refine Tr.next ?_) | (with_reducible refine Tr.region ?_) | (with_reducible refine Tr.nil ?_) | (with_reducible refine Tr.skip ?_) | (with_reducible refine Tr.in_normal ?_) | (refine Tr.cond_bf rfl (by first | (with_reducible rfl) | (with_reducible assumption) | (with_reducible exact Bool.not_true) | (with_reducible exact Bool.not_false)) ?_))
      rw [← hsu]
      refine Tr.give (r := box _ 43 _) (by repeat (first | exact Del.here | apply Del.there)) ?_
      refine Tr.again (y + 1) hyn (by omega) (holds_sub (by repeat (first | exact SubFr.nil | refine SubFr.cons rfl ?_)) (by repeat (first | exact DropL.refl | apply DropL.skip)))
    · rw [ht] at hsu
      simp only [if_true] at hsu
      repeat (first | ((with_reducible refine Tr.step rfl ?_); (first | ((with_reducible refine Knd.move ?_); (refine Exec.stab rfl (Stab.move rfl) rfl ?_)) | ((with_reducible refine Knd.assign ?_); (refine Exec.stab rfl (Stab.assign rfl) rfl ?_)) | ((with_reducible refine Knd.load ?_); ((refine Exec.stab rfl (Stab.loadM rfl (tysOk.get rfl) rfl (by assumption)) rfl ?_))) | ((with_reducible refine Knd.binOp ?_); ((refine Exec.stab rfl (Stab.addi rfl rfl (by omega)) rfl ?_))) | ((with_reducible refine Knd.indexAddr ?_); ((refine Exec.stab rfl (Stab.indexAddr rfl rfl (tysOk.get rfl) rfl (tysOk.get rfl) rfl (by omega) (by omega) (by first | rfl | assumption)) rfl ?_))))) | (with_reducible refine Tr.next ?_) | (with_reducible refine Tr.region ?_) | (with_reducible refine Tr.nil ?_) | (with_reducible refine Tr.in_normal ?_) | (refine Tr.cond_bt rfl (by first | (with_reducible rfl) | (with_reducible assumption) | (with_reducible exact Bool.not_true) | (with_reducible exact Bool.not_false)) ?_))
      rw [← hsu]
      refine Tr.give (r := box _ 43 _) (by repeat (first | exact Del.here | apply Del.there)) ?_
      refine Tr.again (y + 1) hyn (by omega) (holds_sub (by repeat (first | exact SubFr.nil | refine SubFr.cons rfl ?_)) (by repeat (first | exact DropL.refl | apply DropL.skip)))
  · have ey : y = fits.length := by omega
    subst ey
    repeat (first | ((with_reducible refine Tr.step rfl ?_); (first | ((with_reducible refine Knd.move ?_); (refine Exec.stab rfl (Stab.move rfl) rfl ?_)) | ((with_reducible refine Knd.assign ?_); (refine Exec.stab rfl (Stab.assign rfl) rfl ?_)) | ((with_reducible refine Knd.binOp ?_); ((refine Exec.stab rfl (Stab.int rfl rfl rfl) rfl ?_))))) | (with_reducible refine Tr.next ?_) | (with_reducible refine Tr.seq ?_) | (with_reducible refine Tr.region ?_) | (with_reducible refine Tr.nil ?_) | (with_reducible refine Tr.exit ?_) | (with_reducible refine Tr.ret ?_) | (with_reducible refine Tr.then_exit ?_) | ((with_reducible refine Tr.in_exit ?_ ?_); (exact rfl)) | (refine Tr.cond_f rfl (by first | (with_reducible assumption) | (with_reducible rfl) | (with_reducible exact (not_not_intro rfl)) | omega) ?_))
    (refine Tr.done (by first | exact .inl rfl | exact .inr rfl) rfl (by repeat (first | exact RVs.nil | (apply RVs.cons; (exact RV.tmp rfl)))) (by first | exact Mem.le.refl _ | assumption) (by exact ⟨[], rfl⟩) ⟨rfl, ?_⟩)
    refine ⟨.inr ⟨hv, _, rfl, ?_⟩, rfl⟩
    rw [decide_eq_true_eq, l3]
    exact ⟨fun h => ⟨hasc, h⟩, fun h => h.2⟩
end Go.Proofs.Ytmioocddmlfboaa
/-
  Matching, plain: a problem without some requests; cuts of which none can be left out; problems with more.
  Conditions: none.
-/
namespace Go.Proofs.Ytmioocddmlfboaa
open Go Bf
theorem keep_idx {α : Type} (o : Nat → Bool) (d : α) (l : List α) : ∀ k, k ≤ l.length → keep o (l.take k) 0 = ((List.range k).filter fun i => !o i).map fun i => l.getD i d
  | 0, _ => by simp [keep]
  | k + 1, h => by
    obtain ⟨x, hx⟩ := get_of_lt (xs := l) (i := k) (by omega)
    rw [keep_take o l 0 k x hx, keep_idx o d l k (by omega), List.range_succ, List.filter_append, List.map_append, Nat.zero_add]
    congr 1
    cases ho : o k
    · simp [ho, hx]
    · simp [ho]
theorem keep_map {α : Type} (o : Nat → Bool) (d : α) (l : List α) : keep o l 0 = ((List.range l.length).filter fun i => !o i).map fun i => l.getD i d := by
  have := keep_idx o d l l.length (Nat.le_refl _)
  rwa [List.take_length] at this
def idx (S : Nat → Bool) (m : Nat) : List Nat := (List.range m).filter S
theorem idx_succ (S : Nat → Bool) (m : Nat) : idx S (m + 1) = idx S m ++ if S m = true then [m] else [] := by
  unfold idx
  rw [List.range_succ, List.filter_append]
  cases h : S m <;> simp [h]
theorem idx_mem {S : Nat → Bool} {m j b : Nat} (h : (idx S m)[j]? = some b) : b < m ∧ S b = true := by
  have := List.mem_of_getElem? h
  simpa [idx] using this
theorem idx_sum (S : Nat → Bool) (f : Nat → Int) : ∀ m, sumN m (fun b => if S b = true then f b else 0) = sumN (idx S m).length fun j => f ((idx S m).getD j 0)
  | 0 => rfl
  | m + 1 => by
    have ih := idx_sum S f m
    rw [idx_succ]
    show sumN m (fun b => if S b = true then f b else 0) + (if S m = true then f m else 0) = _
    rw [ih]
    by_cases h : S m = true
    · rw [if_pos h, if_pos h, List.length_append]
      show _ = sumN (idx S m).length _ + f _
      congr 1
      · refine sumN_congr fun j hj => ?_
        congr 1
        rw [List.getD_eq_getElem?_getD, List.getD_eq_getElem?_getD, List.getElem?_append_left hj]
      · congr 1
        rw [List.getD_eq_getElem?_getD, List.getElem?_append_right (Nat.le_refl _)]
        simp
    · rw [if_neg h, if_neg h, List.append_nil]; omega
theorem keep_len_idx {α : Type} (o : Nat → Bool) (l : List α) : (keep o l 0).length = (idx (fun i => !o i) l.length).length := by
  cases l with
  | nil => rfl
  | cons x l => rw [keep_map o x]; simp [idx]
theorem keep_get {α : Type} (o : Nat → Bool) (d : α) (l : List α) {j : Nat} (hj : j < (idx (fun i => !o i) l.length).length) : (keep o l 0).getD j d = l.getD ((idx (fun i => !o i) l.length).getD j 0) d := by
  rw [keep_map o d]
  obtain ⟨b, hb⟩ := get_of_lt hj
  have : (((List.range l.length).filter fun i => !o i).map fun i => l.getD i d)[j]? = some (l.getD b d) := by
    rw [List.getElem?_map]
    show (idx (fun i => !o i) l.length)[j]?.map _ = _
    rw [hb]; rfl
  rw [getD_of this, getD_of hb]
/-- what is possible for some of the requests is possible without the others -/
theorem feas_keep {fits : List (List Bool)} {sup need : List Int} (hv : Vld fits sup need) (o : Nat → Bool) (h : Feas (pbS fits sup need fun b => !o b)) : Feas (pbOf (fits.map fun r => keep o r 0) sup (keep o need 0)) := by
  obtain ⟨a, ha⟩ := h
  let S := fun b => !o b
  let ix := idx S need.length
  have hlf := hv.lf
  have hm : (keep o need 0).length = ix.length := keep_len_idx o need
  have hz : ∀ k, k < sup.length → ∀ b, b < need.length → S b = false → a k b = 0 := fun k hk b hb hS => by
    have h1 : (0 : Int) + sumN sup.length (fun k => a k b) = if S b = true then need.getD b 0 else 0 := ha.col b hb
    rw [hS, if_neg (by simp)] at h1
    have h2 := sumN_le_of_mem (f := fun k => a k b) (n := sup.length) (k := k) (fun k hk => ha.nn k hk b (Nat.le_of_lt hb)) hk
    have h3 := ha.nn k hk b (Nat.le_of_lt hb)
    have h2' : a k b ≤ sumN sup.length (fun k => a k b) := h2
    omega
  refine ⟨fun k j => if j = ix.length then a k need.length else a k (ix.getD j 0), ⟨fun k hk j hj => ?_, fun k hk j hj h0 => ?_, fun k hk => ?_⟩, fun j hj => ?_, fun _ _ => Int.le_refl _⟩
  · by_cases e : j = ix.length
    · simp only [if_pos e]
      exact ha.nn k hk _ (Nat.le_refl _)
    · simp only [if_neg e]
      have hj' : j ≤ (keep o need 0).length := hj
      obtain ⟨b, hb⟩ := get_of_lt (xs := ix) (i := j) (by omega)
      rw [getD_of hb]
      exact ha.nn k hk b (Nat.le_of_lt (idx_mem hb).1)
  · have hj' : j < (keep o need 0).length := hj
    have e : ¬ j = ix.length := by omega
    simp only [if_neg e] at h0
    obtain ⟨b, hb⟩ := get_of_lt (xs := ix) (i := j) (by omega)
    rw [getD_of hb] at h0
    have h1 := ha.ok k hk b (idx_mem hb).1 h0
    show ((fits.map fun r => keep o r 0).getD k []).getD j false = true
    have hk' : k < sup.length := hk
    obtain ⟨row, hr⟩ := get_of_lt (xs := fits) (i := k) (by omega)
    have hrl := hv.rows row (List.mem_of_getElem? hr)
    rw [getD_of (d := []) (show (fits.map fun r => keep o r 0)[k]? = some (keep o row 0) by simp [hr])]
    rw [keep_get o false row (by rw [hrl]; show j < ix.length; omega), hrl]
    show row.getD (ix.getD j 0) false = true
    rw [getD_of hb]
    have h2 : (fits.getD k []).getD b false = true := h1
    rwa [getD_of (d := []) hr] at h2
  · have hk' : k < sup.length := hk
    show sumN ((keep o need 0).length + 1) _ = sup.getD k 0
    rw [hm]
    show sumN ix.length (fun j => if j = ix.length then a k need.length else a k (ix.getD j 0)) + (if ix.length = ix.length then a k need.length else a k (ix.getD ix.length 0)) = _
    rw [if_pos rfl, sumN_congr (g := fun j => a k (ix.getD j 0)) (fun j hj => if_neg (by omega)), ← idx_sum S (a k) need.length]
    have h1 : sumN need.length (a k) + a k need.length = sup.getD k 0 := ha.row k hk
    rw [← h1]
    congr 1
    refine sumN_congr fun b hb => ?_
    cases hS : S b
    · simp [hz k hk' b hb hS]
    · simp
  · have hj' : j < (keep o need 0).length := hj
    obtain ⟨b, hb⟩ := get_of_lt (xs := ix) (i := j) (by omega)
    have hbm := idx_mem hb
    show (0 : Int) + sumN sup.length (fun k => if j = ix.length then a k need.length else a k (ix.getD j 0)) = (keep o need 0).getD j 0
    rw [sumN_congr (g := fun k => a k b) (fun k _ => by rw [if_neg (by omega), getD_of hb])]
    have h1 : (0 : Int) + sumN sup.length (fun k => a k b) = if S b = true then need.getD b 0 else 0 := ha.col b hbm.1
    rw [h1, if_pos hbm.2, keep_get o 0 need (by show j < ix.length; omega)]
    show need.getD b 0 = need.getD (ix.getD j 0) 0
    rw [getD_of hb]
theorem keep_vld {fits : List (List Bool)} {sup need : List Int} (hv : Vld fits sup need) (o : Nat → Bool) : Vld (fits.map fun r => keep o r 0) sup (keep o need 0) := by
  have hsub : ∀ {α : Type} (l : List α) (i : Nat) (x : α), x ∈ keep o l i → x ∈ l := fun l => by
    induction l with
    | nil => intro i x h; simp [keep] at h
    | cons y l ih =>
      intro i x h
      rw [keep] at h
      split at h
      · exact List.mem_cons_of_mem _ (ih _ _ h)
      · rcases List.mem_cons.1 h with rfl | h
        · exact List.mem_cons_self ..
        · exact List.mem_cons_of_mem _ (ih _ _ h)
  refine ⟨hv.ls, Nat.le_trans (keep_len o need 0) hv.ln, by simpa using hv.lf, fun r hr => ?_, hv.rs, fun x hx => hv.rn x (hsub need 0 x hx)⟩
  obtain ⟨row, hrow, rfl⟩ := List.mem_map.1 hr
  rw [keep_len_idx, keep_len_idx, hv.rows row hrow]
/-- less is needed -/
theorem feasS_mono {fits : List (List Bool)} {sup need : List Int} (hv : Vld fits sup need) {S T : Nat → Bool} (h : ∀ b, b < need.length → T b = true → S b = true) (hf : Feas (pbS fits sup need S)) : Feas (pbS fits sup need T) := by
  rw [feasS_iff hv] at hf ⊢
  intro D
  refine Int.le_trans ?_ (hf D)
  unfold lackOf
  refine Int.sub_le_sub (sumN_le fun b hb => ?_) (Int.le_refl _)
  show (if D b = true then (if T b = true then need.getD b 0 else 0) else 0) ≤ if D b = true then (if S b = true then need.getD b 0 else 0) else 0
  have := (getD_rng hv.rn b).1
  by_cases hD : D b = true
  · rw [if_pos hD, if_pos hD]
    by_cases hT : T b = true
    · rw [if_pos hT, if_pos (h b hb hT)]; exact Int.le_refl _
    · rw [if_neg hT]; split <;> omega
  · rw [if_neg hD, if_neg hD]; exact Int.le_refl _
theorem feas_S {fits : List (List Bool)} {sup need : List Int} (hv : Vld fits sup need) (hf : Feas (pbOf fits sup need)) (S : Nat → Bool) : Feas (pbS fits sup need S) := by
  rw [feasS_iff hv]
  intro D
  exact Int.le_trans (lackS_le hv S D) (hf.lack _)
/-- of the cut none can be left out -/
theorem cutF_props {fits : List (List Bool)} {sup need : List Int} (hv : Vld fits sup need) : ∀ (r : Nat) (S : Nat → Bool), r ≤ need.length → (∀ b, b < r → S b = true) → ¬ Feas (pbS fits sup need S) → (∀ b, r ≤ b → b < need.length → S b = true → Feas (pbS fits sup need fun c => S c && decide (c ≠ b))) →
    ¬ Feas (pbS fits sup need (cutF (fun S => Feas (pbS fits sup need S)) r S)) ∧ (∀ b, b < need.length → cutF (fun S => Feas (pbS fits sup need S)) r S b = true → S b = true ∧ Feas (pbS fits sup need fun c => cutF (fun S => Feas (pbS fits sup need S)) r S c && decide (c ≠ b)))
  | 0, S, _, _, hn, hp => ⟨hn, fun b hb h => ⟨h, hp b (Nat.zero_le _) hb h⟩⟩
  | r + 1, S, hr, hall, hn, hp => by
    rw [cutF]
    have hSr := hall r (by omega)
    by_cases hP : Feas (pbS fits sup need fun b => S b && decide (b ≠ r))
    · have e : (fun b => if b = r then @decide (Feas (pbS fits sup need fun b => S b && decide (b ≠ r))) (Classical.propDecidable _) else S b) = S := by
        funext b
        by_cases hb : b = r
        · subst hb; rw [if_pos rfl, hSr]; exact @decide_eq_true _ (Classical.propDecidable _) hP
        · rw [if_neg hb]
      have e' : cutF (fun S => Feas (pbS fits sup need S)) r (fun b => if b = r then @decide (Feas (pbS fits sup need fun b => S b && decide (b ≠ r))) (Classical.propDecidable _) else S b) = cutF (fun S => Feas (pbS fits sup need S)) r S := by rw [e]
      show _ ∧ _
      have ih := cutF_props hv r S (by omega) (fun b hb => hall b (by omega)) hn (fun b h1 h2 h3 => by
        by_cases hb : b = r
        · subst hb; exact hP
        · exact hp b (by omega) h2 h3)
      rw [← e'] at ih
      exact ih
    · have e : (fun b => if b = r then @decide (Feas (pbS fits sup need fun b => S b && decide (b ≠ r))) (Classical.propDecidable _) else S b) = fun b => S b && decide (b ≠ r) := by
        funext b
        by_cases hb : b = r
        · subst hb; rw [if_pos rfl]; exact (@decide_eq_false _ (Classical.propDecidable _) hP).trans (by simp)
        · rw [if_neg hb]; simp [hb]
      have e' : cutF (fun S => Feas (pbS fits sup need S)) r (fun b => if b = r then @decide (Feas (pbS fits sup need fun b => S b && decide (b ≠ r))) (Classical.propDecidable _) else S b) = cutF (fun S => Feas (pbS fits sup need S)) r (fun b => S b && decide (b ≠ r)) := by rw [e]
      have ih := cutF_props hv r (fun b => S b && decide (b ≠ r)) (by omega) (fun b hb => by rw [hall b (by omega)]; simp; omega) hP (fun b h1 h2 h3 => by
        simp at h3
        refine feasS_mono hv (fun c _ hc => ?_) (hp b (by omega) h2 h3.1)
        simp at hc ⊢
        exact ⟨hc.1.1, hc.2⟩)
      rw [← e'] at ih
      refine ⟨ih.1, fun b hb h => ?_⟩
      have := ih.2 b hb h
      refine ⟨?_, this.2⟩
      have h2 := this.1
      simp at h2
      exact h2.1
theorem cutFin_props {fits : List (List Bool)} {sup need : List Int} (hv : Vld fits sup need) (hn : ¬ Feas (pbOf fits sup need)) : ¬ Feas (pbS fits sup need (cutFin fits sup need)) ∧ ∀ b, b < need.length → cutFin fits sup need b = true → Feas (pbS fits sup need fun c => cutFin fits sup need c && decide (c ≠ b)) := by
  have h := cutF_props hv need.length (fun b => decide (b < need.length)) (Nat.le_refl _) (fun b hb => by simpa using hb) (fun hf => hn (by
    rw [feas_iff hv.sup0 hv.need0]
    rw [feasS_iff hv] at hf
    intro D
    rw [← lackS_eq (fun b => decide (b < need.length)) D (fun b hb _ => by simpa using hb)]
    exact hf D)) (fun b h1 h2 => by omega)
  exact ⟨h.1, fun b hb hc => (h.2 b hb hc).2⟩
/-- .. and together they lack something -/
theorem cutFin_lack {fits : List (List Bool)} {sup need : List Int} (hv : Vld fits sup need) (hn : ¬ Feas (pbOf fits sup need)) : 0 < lackOf (pbOf fits sup need) (cutFin fits sup need) := by
  obtain ⟨h1, h2⟩ := cutFin_props hv hn
  rw [feasS_iff hv] at h1
  obtain ⟨D, hD⟩ := Classical.not_forall.1 h1
  have hle := lackS_le hv (cutFin fits sup need) D
  by_cases hall : ∀ b, b < need.length → cutFin fits sup need b = true → D b = true
  · have e : lackOf (pbOf fits sup need) (fun b => D b && cutFin fits sup need b) = lackOf (pbOf fits sup need) (cutFin fits sup need) := lackOf_congr fun b hb => by
      have := hall b hb
      cases h : cutFin fits sup need b
      · simp
      · simp [this h]
    omega
  · exfalso
    obtain ⟨b, hb⟩ := Classical.not_forall.1 hall
    have hb1 : b < need.length := Classical.byContradiction fun h => hb fun h' => absurd h' h
    have hb2 : cutFin fits sup need b = true := Classical.byContradiction fun h => hb fun _ h' => absurd h' h
    have hb3 : D b = false := by
      cases h : D b
      · rfl
      · exact absurd (fun _ _ => h) hb
    have hf := (feasS_iff hv _).1 (h2 b hb1 hb2) fun c => D c && cutFin fits sup need c
    rw [lackS_eq (fun c => cutFin fits sup need c && decide (c ≠ b)) (fun c => D c && cutFin fits sup need c) (fun c _ hc => by
      simp at hc ⊢
      refine ⟨hc.2, fun e => ?_⟩
      subst e
      rw [hb3] at hc
      cases hc.1)] at hf
    omega
end Go.Proofs.Ytmioocddmlfboaa
/-
  Matching, plain: how much of a supply a request can get; amounts one after the other.
  Conditions: none.
-/
namespace Go.Proofs.Ytmioocddmlfboaa
open Go Bf
theorem Flow.congr {p : Pb} {x y : Nat → Nat → Int} {lack : Nat → Int} (h : Bf.Flow p x lack) (e : ∀ k, k < p.n → ∀ b, b ≤ p.m → y k b = x k b) : Bf.Flow p y lack := by
  refine ⟨⟨fun k hk b hb => by rw [e k hk b hb]; exact h.nn k hk b hb, fun k hk b hb h0 => h.ok k hk b hb (by rw [← e k hk b (by omega)]; exact h0), fun k hk => ?_⟩, fun b hb => ?_, h.lk⟩
  · rw [← h.row k hk]
    exact sumN_congr fun b hb => e k hk b (by omega)
  · rw [← h.col b hb]
    congr 1
    exact sumN_congr fun k hk => e k hk b (by omega)
/-- what remains when the supply s has given v to the request r, and serves it no more -/
def afterP (q : Pb) (s r : Nat) (v : Int) : Pb := ⟨q.n, q.m, fun k b => q.fits k b && !(decide (k = s) && decide (b = r)), fun k => if k = s then q.sup k - v else q.sup k, fun b => if b = r then q.need b - v else q.need b⟩
def addAt (c : Nat → Nat → Int) (s r : Nat) (v : Int) (k b : Nat) : Int := if k = s ∧ b = r then c k b + v else c k b
theorem sumN_at {n s : Nat} {f g : Nat → Int} {v : Int} (hs : s < n) (h1 : g s = f s + v) (h2 : ∀ i, i ≠ s → g i = f i) : sumN n g = sumN n f + v := by
  rw [sumN_upd (f := f) (g := g) hs h2, h1]; omega
theorem flow_add {q : Pb} {s r : Nat} {v : Int} {c : Nat → Nat → Int} (hs : s < q.n) (hr : r < q.m) (hf : q.fits s r = true) (hv : 0 ≤ v) (h : Bf.Flow (afterP q s r v) c fun _ => 0) : Bf.Flow q (addAt c s r v) fun _ => 0 := by
  have hz : c s r = 0 := by
    by_cases e : c s r = 0
    · exact e
    · have := h.ok s hs r hr e
      simp [afterP] at this
  refine ⟨⟨fun k hk b hb => ?_, fun k hk b hb h0 => ?_, fun k hk => ?_⟩, fun b hb => ?_, fun _ _ => Int.le_refl _⟩
  · have := h.nn k hk b hb
    unfold addAt
    split <;> omega
  · by_cases e : k = s ∧ b = r
    · obtain ⟨rfl, rfl⟩ := e; exact hf
    · unfold addAt at h0
      rw [if_neg e] at h0
      have := h.ok k hk b hb h0
      simp only [afterP, Bool.and_eq_true] at this
      exact this.1
  · have h1 : sumN (q.m + 1) (c k) = if k = s then q.sup k - v else q.sup k := h.row k hk
    by_cases e : k = s
    · subst e
      rw [if_pos rfl] at h1
      rw [sumN_at (n := q.m + 1) (s := r) (f := c k) (v := v) (by omega) (by simp [addAt]) (fun i hi => by simp [addAt, hi]), h1]
      omega
    · rw [if_neg e] at h1
      rw [← h1]
      exact sumN_congr fun b _ => by simp [addAt, e]
  · have h1 : (0 : Int) + sumN q.n (fun k => c k b) = if b = r then q.need b - v else q.need b := h.col b hb
    show (0 : Int) + sumN q.n (fun k => addAt c s r v k b) = q.need b
    by_cases e : b = r
    · subst e
      rw [if_pos rfl] at h1
      rw [sumN_at (n := q.n) (s := s) (f := fun k => c k b) (v := v) hs (by simp [addAt]) (fun i hi => by simp [addAt, hi])]
      omega
    · rw [if_neg e] at h1
      rw [← h1]
      congr 1
      exact sumN_congr fun k _ => by simp [addAt, e]
theorem flow_sub {q : Pb} {s r : Nat} {c : Nat → Nat → Int} (hs : s < q.n) (hr : r < q.m) (h : Bf.Flow q c fun _ => 0) : Bf.Flow (afterP q s r (c s r)) (addAt c s r (-(c s r))) fun _ => 0 := by
  have hnn := h.nn s hs r (by omega)
  refine ⟨⟨fun k hk b hb => ?_, fun k hk b hb h0 => ?_, fun k hk => ?_⟩, fun b hb => ?_, fun _ _ => Int.le_refl _⟩
  · have := h.nn k hk b hb
    unfold addAt
    split
    · rename_i e; obtain ⟨rfl, rfl⟩ := e; omega
    · exact this
  · unfold addAt at h0
    by_cases e : k = s ∧ b = r
    · rw [if_pos e] at h0
      obtain ⟨rfl, rfl⟩ := e
      omega
    · rw [if_neg e] at h0
      have := h.ok k hk b hb h0
      show (q.fits k b && !(decide (k = s) && decide (b = r))) = true
      rw [this]
      simp
      omega
  · have h1 : sumN (q.m + 1) (c k) = q.sup k := h.row k hk
    show sumN (q.m + 1) (addAt c s r (-(c s r)) k) = if k = s then q.sup k - c s r else q.sup k
    by_cases e : k = s
    · subst e
      rw [if_pos rfl, sumN_at (n := q.m + 1) (s := r) (f := c k) (v := -(c k r)) (by omega) (by simp [addAt]) (fun i hi => by simp [addAt, hi]), h1]
      omega
    · rw [if_neg e, ← h1]
      exact sumN_congr fun b _ => by simp [addAt, e]
  · have h1 : (0 : Int) + sumN q.n (fun k => c k b) = q.need b := h.col b hb
    show (0 : Int) + sumN q.n (fun k => addAt c s r (-(c s r)) k b) = if b = r then q.need b - c s r else q.need b
    by_cases e : b = r
    · subst e
      rw [if_pos rfl, sumN_at (n := q.n) (s := s) (f := fun k => c k b) (v := -(c s b)) hs (by simp [addAt]) (fun i hi => by simp [addAt, hi])]
      omega
    · rw [if_neg e, ← h1]
      congr 1
      exact sumN_congr fun k _ => by simp [addAt, e]
/-- what a flow gives is at most what the others leave over -/
theorem flow_le_lack {q : Pb} {c : Nat → Nat → Int} (h : Bf.Flow q c fun _ => 0) {s r : Nat} (hs : s < q.n) (hr : r < q.m) {D : Nat → Bool} (hD : D r = false) (ht : touches q D s = true) : c s r ≤ - lackOf q D := by
  have e := h.lackOf_eq D
  have z : (sumN q.m fun b => if D b = true then (0 : Int) else 0) = 0 := sumN_zero fun _ _ => by split <;> rfl
  rw [z, Int.zero_add] at e
  let f := fun k => (sumN q.m fun b => if D b = true then c k b else 0) - if touches q D k = true then q.sup k else 0
  have hf : ∀ k, k < q.n → f k ≤ 0 := fun k hk => by
    have := h.part_le D hk
    show (sumN q.m fun b => if D b = true then c k b else 0) - (if touches q D k = true then q.sup k else 0) ≤ 0
    omega
  have h1 := sumN_le_of_mem (f := fun k => - f k) (n := q.n) (k := s) (fun k hk => by have := hf k hk; show 0 ≤ - f k; omega) hs
  have h2 : (sumN q.n fun k => - f k) = - sumN q.n f := by
    have := sumN_sub (fun _ => 0) f q.n
    rw [sumN_zero (f := fun _ => 0) (fun _ _ => rfl)] at this
    simpa using this
  have h3 : sumN q.n f = lackOf q D := e.symm
  have h4 : (sumN q.m fun b => if D b = true then c s b else 0) + c s r ≤ q.sup s := by
    rw [← h.row s hs]
    have h5 : sumN q.m (fun b => if D b = true then c s b else 0) + c s r = sumN q.m (fun b => if b = r then c s b else if D b = true then c s b else 0) := by
      rw [sumN_at (n := q.m) (s := r) (f := fun b => if D b = true then c s b else 0) (g := fun b => if b = r then c s b else if D b = true then c s b else 0) (v := c s r) hr (by simp [hD]) (fun i hi => by simp [hi])]
    rw [h5]
    have h6 : sumN q.m (fun b => if b = r then c s b else if D b = true then c s b else 0) ≤ sumN q.m (c s) := sumN_le fun b hb => by
      have := h.nn s hs b (by omega)
      split
      · exact Int.le_refl _
      · split <;> omega
    have h7 := h.nn s hs q.m (Nat.le_refl _)
    have h8 : sumN (q.m + 1) (c s) = sumN q.m (c s) + c s q.m := rfl
    omega
  have h9 : f s ≤ - c s r := by
    show (sumN q.m fun b => if D b = true then c s b else 0) - (if touches q D s = true then q.sup s else 0) ≤ - c s r
    rw [if_pos ht]
    omega
  have h1 : - f s ≤ sumN q.n fun k => - f k := h1
  omega
/-- sums of requests, of supplies but for one -/
def needN (q : Pb) (D : Nat → Bool) : Int := sumN q.m fun b => if D b = true then q.need b else 0
def covN (q : Pb) (s : Nat) (D : Nat → Bool) : Int := sumN q.n fun k => if k = s then 0 else if touches q D k = true then q.sup k else 0
theorem lack_cov (q : Pb) {s : Nat} (hs : s < q.n) (D : Nat → Bool) : lackOf q D = needN q D - covN q s D - if touches q D s = true then q.sup s else 0 := by
  unfold lackOf needN covN
  rw [sumN_at (n := q.n) (s := s) (f := fun k => if k = s then 0 else if touches q D k = true then q.sup k else 0) (g := fun k => if touches q D k = true then q.sup k else 0) (v := if touches q D s = true then q.sup s else 0) hs (by simp) (fun i hi => by simp [hi])]
  omega
theorem need_split (q : Pb) (D E : Nat → Bool) : needN q D + needN q E = needN q (fun b => D b || E b) + needN q (fun b => D b && E b) := by
  unfold needN
  rw [← sumN_add, ← sumN_add]
  exact sumN_congr fun b _ => by cases hD : D b <;> cases hE : E b <;> simp [hD, hE]
theorem touches_or (q : Pb) (D E : Nat → Bool) (k : Nat) : touches q (fun b => D b || E b) k = (touches q D k || touches q E k) := by
  rw [Bool.eq_iff_iff, Bool.or_eq_true, touches_iff, touches_iff, touches_iff]
  constructor
  · rintro ⟨b, h1, h2, h3⟩
    simp at h2
    rcases h2 with h2 | h2
    · exact .inl ⟨b, h1, h2, h3⟩
    · exact .inr ⟨b, h1, h2, h3⟩
  · rintro (⟨b, h1, h2, h3⟩ | ⟨b, h1, h2, h3⟩)
    · exact ⟨b, h1, by simp [h2], h3⟩
    · exact ⟨b, h1, by simp [h2], h3⟩
theorem touches_and (q : Pb) (D E : Nat → Bool) (k : Nat) (h : touches q (fun b => D b && E b) k = true) : touches q D k = true ∧ touches q E k = true := by
  obtain ⟨b, h1, h2, h3⟩ := touches_iff.1 h
  simp at h2
  exact ⟨touches_iff.2 ⟨b, h1, h2.1, h3⟩, touches_iff.2 ⟨b, h1, h2.2, h3⟩⟩
theorem cov_split (q : Pb) (s : Nat) (hp : ∀ k, k < q.n → 0 ≤ q.sup k) (D E : Nat → Bool) : covN q s (fun b => D b || E b) + covN q s (fun b => D b && E b) ≤ covN q s D + covN q s E := by
  unfold covN
  rw [← sumN_add, ← sumN_add]
  refine sumN_le fun k hk => ?_
  have h0 := hp k hk
  by_cases e : k = s
  · simp [e]
  · simp only [if_neg e]
    rw [touches_or]
    have h1 := touches_and q D E k
    cases h2 : touches q (fun b => D b && E b) k
    · cases touches q D k <;> cases touches q E k <;> simp <;> omega
    · obtain ⟨h3, h4⟩ := h1 h2
      rw [h3, h4]
      simp
theorem cov_mono (q : Pb) (s : Nat) (hp : ∀ k, k < q.n → 0 ≤ q.sup k) {D E : Nat → Bool} (h : ∀ b, D b = true → E b = true) : covN q s D ≤ covN q s E := by
  refine sumN_le fun k hk => ?_
  have h0 := hp k hk
  by_cases e : k = s
  · simp [e]
  · simp only [if_neg e]
    cases h1 : touches q D k
    · simp
      split <;> omega
    · obtain ⟨b, g1, g2, g3⟩ := touches_iff.1 h1
      have : touches q E k = true := touches_iff.2 ⟨b, g1, h b g2, g3⟩
      simp [this]
/-- what is left is feasible when a request has got as much as possible -/
theorem room_feas {q : Pb} (hp : ∀ k, k < q.n → 0 ≤ q.sup k) (hn : ∀ b, b < q.m → 0 ≤ q.need b) (hf : Feas q) {s r : Nat} (hs : s < q.n) (hr : r < q.m) {v : Int} (l1 : v ≤ q.sup s) (l2 : v ≤ q.need r)
    (le : ∀ D : Nat → Bool, D r = false → touches q D s = true → v ≤ - lackOf q D) (is : v = q.sup s ∨ v = q.need r ∨ ∃ E : Nat → Bool, E r = false ∧ touches q E s = true ∧ v = - lackOf q E) : 0 ≤ v ∧ Feas (afterP q s r v) := by
  have hl := (feas_iff hp hn).1 hf
  have h0 : 0 ≤ v := by
    rcases is with h | h | ⟨E, -, -, h⟩
    · rw [h]; exact hp s hs
    · rw [h]; exact hn r hr
    · have := hl E; omega
  refine ⟨h0, hall (fun k hk => ?_) (fun b hb => ?_) fun D => ?_⟩
  · show 0 ≤ if k = s then q.sup k - v else q.sup k
    have := hp k hk
    split
    · rename_i e; subst e; omega
    · exact this
  · show 0 ≤ if b = r then q.need b - v else q.need b
    have := hn b hb
    split
    · rename_i e; subst e; omega
    · exact this
  -- the lack after
  have hneed : needN (afterP q s r v) D = needN q D - if D r = true then v else 0 := by
    unfold needN
    show (sumN q.m fun b => if D b = true then (if b = r then q.need b - v else q.need b) else 0) = _
    cases hD : D r
    · simp only [Bool.false_eq_true, if_false, Int.sub_zero]
      exact sumN_congr fun b _ => by
        by_cases e : b = r
        · subst e; simp [hD]
        · simp [e]
    · rw [sumN_at (n := q.m) (s := r) (f := fun b => if D b = true then q.need b else 0) (v := -v) hr (by simp [hD]; omega) (fun i hi => by simp [hi])]
      simp
      omega
  have htk : ∀ k, k ≠ s → touches (afterP q s r v) D k = touches q D k := fun k hk => by
    rw [Bool.eq_iff_iff, touches_iff, touches_iff]
    simp [afterP, hk]
  have hcov : covN (afterP q s r v) s D = covN q s D := by
    refine sumN_congr fun k _ => ?_
    by_cases e : k = s
    · simp [e]
    · simp only [if_neg e]
      rw [htk k e]
      show (if touches q D k = true then (if k = s then q.sup k - v else q.sup k) else 0) = _
      rw [if_neg e]
  have hts : touches (afterP q s r v) D s = true ↔ ∃ b, b < q.m ∧ D b = true ∧ b ≠ r ∧ q.fits s b = true := by
    rw [touches_iff]
    simp only [afterP, Bool.and_eq_true, Bool.not_eq_true', decide_true, Bool.true_and, decide_eq_false_iff_not]
    exact ⟨fun ⟨b, h1, h2, h3, h4⟩ => ⟨b, h1, h2, h4, h3⟩, fun ⟨b, h1, h2, h3, h4⟩ => ⟨b, h1, h2, h4, h3⟩⟩
  have hsup : (afterP q s r v).sup s = q.sup s - v := by simp [afterP]
  rw [lack_cov (afterP q s r v) (s := s) hs, hneed, hcov, hsup]
  have hD := hl D
  rw [lack_cov q hs D] at hD
  by_cases ht : touches (afterP q s r v) D s = true
  · rw [if_pos ht]
    obtain ⟨b, b1, b2, b3, b4⟩ := hts.1 ht
    have htq : touches q D s = true := touches_iff.2 ⟨b, b1, b2, b4⟩
    rw [if_pos htq] at hD
    cases hDr : D r
    · have := le D hDr htq
      rw [lack_cov q hs D, if_pos htq] at this
      simp
      omega
    · simp
      omega
  · rw [if_neg ht]
    have hno : ∀ b, b < q.m → D b = true → b ≠ r → q.fits s b = false := fun b h1 h2 h3 => by
      cases h : q.fits s b
      · rfl
      · exact absurd (hts.2 ⟨b, h1, h2, h3, h⟩) ht
    cases hDr : D r
    · have htq : touches q D s = false := by
        cases h : touches q D s
        · rfl
        · obtain ⟨b, h1, h2, h3⟩ := touches_iff.1 h
          rw [hno b h1 h2 (fun e => by rw [e, hDr] at h2; cases h2)] at h3
          cases h3
      rw [htq] at hD
      simp at hD ⊢
      omega
    · simp only [if_true, Int.sub_zero]
      rcases is with h | h | ⟨E, e1, e2, h⟩
      · have : (if touches q D s = true then q.sup s else 0) ≤ q.sup s := by
          have := hp s hs
          split <;> omega
        omega
      · have h1 := hl fun b => D b && !decide (b = r)
        have h2 : touches q (fun b => D b && !decide (b = r)) s = false := by
          cases h : touches q (fun b => D b && !decide (b = r)) s
          · rfl
          · obtain ⟨b, h1, h2, h3⟩ := touches_iff.1 h
            simp at h2
            rw [hno b h1 h2.1 h2.2] at h3
            cases h3
        rw [lack_cov q hs, h2] at h1
        have h3 : needN q D = needN q (fun b => D b && !decide (b = r)) + q.need r := by
          unfold needN
          rw [sumN_at (n := q.m) (s := r) (f := fun b => if (D b && !decide (b = r)) = true then q.need b else 0) (g := fun b => if D b = true then q.need b else 0) (v := q.need r) hr (by simp [hDr]) (fun i hi => by simp [hi])]
        have h4 := cov_mono q s hp (D := fun b => D b && !decide (b = r)) (E := D) (fun b h => by simp at h; exact h.1)
        simp at h1
        omega
      · have h1 := hl fun b => D b || E b
        have h2 := hl fun b => D b && E b
        have h3 : touches q (fun b => D b || E b) s = true := by rw [touches_or, e2, Bool.or_true]
        have h4 : touches q (fun b => D b && E b) s = false := by
          cases h : touches q (fun b => D b && E b) s
          · rfl
          · obtain ⟨b, g1, g2, g3⟩ := touches_iff.1 h
            simp at g2
            rw [hno b g1 g2.1 (fun e => by rw [e, e1] at g2; cases g2.2)] at g3
            cases g3
        rw [lack_cov q hs, if_pos h3] at h1
        rw [lack_cov q hs, h4] at h2
        rw [lack_cov q hs E, if_pos e2] at h
        have h5 := need_split q D E
        have h6 := cov_split q s hp D E
        simp at h2
        omega
/-- amounts already given, in order -/
def placed (s r k b : Nat) : Bool := decide (k < s) || (decide (k = s) && decide (b < r))
def mergeA (a c : Nat → Nat → Int) (m s r k b : Nat) : Int := if placed s r k b = true ∧ b < m then a k b else c k b
def restA (a : Nat → Nat → Int) (m s r k b : Nat) : Int := if placed s r k b = true ∧ b < m then 0 else a k b
structure Resid (p : Pb) (a : Nat → Nat → Int) (q : Pb) (s r : Nat) : Prop where
  n : q.n = p.n
  m : q.m = p.m
  up : ∀ c, (Bf.Flow q c fun _ => 0) → Bf.Flow p (mergeA a c p.m s r) fun _ => 0
  dn : Bf.Flow q (restA a p.m s r) fun _ => 0
theorem Resid.start {p : Pb} {a : Nat → Nat → Int} (h : Bf.Flow p a fun _ => 0) : Resid p a p 0 0 := by
  have e : ∀ k b, placed 0 0 k b = false := fun k b => by simp [placed]
  exact ⟨rfl, rfl, fun c hc => Flow.congr hc fun k _ b _ => by simp [mergeA, e], Flow.congr h fun k _ b _ => by simp [restA, e]⟩
theorem placed_succ (s r k b : Nat) : placed s (r + 1) k b = (placed s r k b || (decide (k = s) && decide (b = r))) := by
  unfold placed
  rw [Bool.eq_iff_iff]
  simp
  omega
theorem Resid.step {p : Pb} {a : Nat → Nat → Int} {q : Pb} {s r : Nat} (h : Resid p a q s r) (hs : s < p.n) (hr : r < p.m) (hf : q.fits s r = true) : Resid p a (afterP q s r (a s r)) s (r + 1) := by
  have hn := h.n
  have hm := h.m
  have hsr : placed s r s r = false := by simp [placed]
  have hrs : restA a p.m s r s r = a s r := by unfold restA; rw [hsr]; simp
  have hnn := h.dn.nn s (by omega) r (by omega)
  rw [hrs] at hnn
  refine ⟨hn, hm, fun c hc => ?_, ?_⟩
  · have hz : c s r = 0 := by
      by_cases e : c s r = 0
      · exact e
      · have := hc.ok s (by show s < q.n; omega) r (by show r < q.m; omega) e
        simp [afterP] at this
    refine Flow.congr (h.up _ (flow_add (by omega) (by omega) hf hnn hc)) fun k _ b _ => ?_
    unfold mergeA addAt
    rw [placed_succ]
    by_cases e : k = s ∧ b = r
    · obtain ⟨rfl, rfl⟩ := e
      rw [hsr]
      simp [hr, hz]
    · have e2 : (decide (k = s) && decide (b = r)) = false := by
        simp
        omega
      rw [e2, Bool.or_false, if_neg e]
  · have h1 := flow_sub (q := q) (s := s) (r := r) (by omega) (by omega) h.dn
    rw [hrs] at h1
    refine Flow.congr h1 fun k _ b _ => ?_
    unfold addAt restA
    rw [placed_succ]
    by_cases e : k = s ∧ b = r
    · obtain ⟨rfl, rfl⟩ := e
      rw [hsr]
      simp [hr]
      omega
    · have e2 : (decide (k = s) && decide (b = r)) = false := by
        simp
        omega
      rw [e2, Bool.or_false, if_neg e]
theorem Resid.zero {p : Pb} {a : Nat → Nat → Int} {q : Pb} {s r : Nat} (h : Resid p a q s r) (hs : s < p.n) (hr : r < p.m) (hf : q.fits s r = false) : a s r = 0 := by
  have hn := h.n
  have hm := h.m
  have hsr : placed s r s r = false := by simp [placed]
  have hrs : restA a p.m s r s r = a s r := by unfold restA; rw [hsr]; simp
  by_cases e : a s r = 0
  · exact e
  · have := h.dn.ok s (by omega) r (by omega) (by rw [hrs]; exact e)
    rw [hf] at this; cases this
theorem Resid.skip {p : Pb} {a : Nat → Nat → Int} {q : Pb} {s r : Nat} (h : Resid p a q s r) (hs : s < p.n) (hr : r < p.m) (hf : q.fits s r = false) : Resid p a q s (r + 1) := by
  have hn := h.n
  have hm := h.m
  have hsr : placed s r s r = false := by simp [placed]
  have h0 := h.zero hs hr hf
  refine ⟨hn, hm, fun c hc => ?_, ?_⟩
  · have hz : c s r = 0 := by
      by_cases e : c s r = 0
      · exact e
      · have := hc.ok s (by omega) r (by omega) e
        rw [hf] at this; cases this
    refine Flow.congr (h.up _ hc) fun k _ b _ => ?_
    unfold mergeA
    rw [placed_succ]
    by_cases e : k = s ∧ b = r
    · obtain ⟨rfl, rfl⟩ := e
      rw [hsr]
      simp [hz, h0]
    · have e2 : (decide (k = s) && decide (b = r)) = false := by
        simp
        omega
      rw [e2, Bool.or_false]
  · refine Flow.congr h.dn fun k _ b _ => ?_
    unfold restA
    rw [placed_succ]
    by_cases e : k = s ∧ b = r
    · obtain ⟨rfl, rfl⟩ := e
      rw [hsr]
      simp [h0]
    · have e2 : (decide (k = s) && decide (b = r)) = false := by
        simp
        omega
      rw [e2, Bool.or_false]
theorem placed_row (s m k b : Nat) (hb : b < m) : placed (s + 1) 0 k b = placed s m k b := by
  unfold placed
  rw [Bool.eq_iff_iff]
  simp
  omega
theorem Resid.row {p : Pb} {a : Nat → Nat → Int} {q : Pb} {s : Nat} (h : Resid p a q s p.m) : Resid p a q (s + 1) 0 := by
  refine ⟨h.n, h.m, fun c hc => Flow.congr (h.up c hc) fun k _ b _ => ?_, Flow.congr h.dn fun k _ b _ => ?_⟩
  · unfold mergeA
    by_cases hb : b < p.m
    · rw [placed_row s p.m k b hb]
    · simp [hb]
  · unfold restA
    by_cases hb : b < p.m
    · rw [placed_row s p.m k b hb]
    · simp [hb]
/-- as much as possible is what the greatest allocation has -/
theorem Resid.room {p : Pb} {a : Nat → Nat → Int} {q : Pb} {s r : Nat} (hmax : LexMax p a) (h : Resid p a q s r) (hs : s < p.n) (hr : r < p.m) (hf : q.fits s r = true) (hp : ∀ k, k < q.n → 0 ≤ q.sup k) (hn : ∀ b, b < q.m → 0 ≤ q.need b) {v : Int} (l1 : v ≤ q.sup s) (l2 : v ≤ q.need r)
    (le : ∀ D : Nat → Bool, D r = false → touches q D s = true → v ≤ - lackOf q D) (is : v = q.sup s ∨ v = q.need r ∨ ∃ E : Nat → Bool, E r = false ∧ touches q E s = true ∧ v = - lackOf q E) : v = a s r := by
  have hqn := h.n
  have hqm := h.m
  have hsr : placed s r s r = false := by simp [placed]
  have hrs : restA a p.m s r s r = a s r := by unfold restA; rw [hsr]; simp
  have h1 : a s r ≤ v := by
    rcases is with e | e | ⟨E, e1, e2, e⟩
    · have := sumN_le_of_mem (f := restA a p.m s r s) (n := q.m + 1) (k := r) (fun b hb => h.dn.nn s (by omega) b (by omega)) (by omega)
      rw [h.dn.row s (by omega), hrs] at this
      omega
    · have := sumN_le_of_mem (f := fun k => restA a p.m s r k r) (n := q.n) (k := s) (fun k hk => h.dn.nn k hk r (by omega)) (by omega)
      have h2 : (0 : Int) + sumN q.n (fun k => restA a p.m s r k r) = q.need r := h.dn.col r (by omega)
      simp only [hrs] at this
      omega
    · have := flow_le_lack h.dn (s := s) (r := r) (by omega) (by omega) e1 e2
      rw [hrs] at this
      omega
  obtain ⟨h0, c, hc⟩ := room_feas hp hn ⟨_, h.dn⟩ (s := s) (r := r) (by omega) (by omega) l1 l2 le is
  have hz : c s r = 0 := by
    by_cases e : c s r = 0
    · exact e
    · have := hc.ok s (by show s < q.n; omega) r (by show r < q.m; omega) e
      simp [afterP] at this
  have h2 := hmax.2 _ (h.up _ (flow_add (by omega) (by omega) hf h0 hc)) s hs r hr (fun k hk b hb => by
    unfold mergeA
    rw [if_pos ⟨by simp [placed, hk], hb⟩]) (fun b hb => by
    unfold mergeA
    rw [if_pos ⟨by simp [placed, hb], by omega⟩])
  unfold mergeA addAt at h2
  rw [hsr] at h2
  simp [hz] at h2
  omega
end Go.Proofs.Ytmioocddmlfboaa
/-
  Matching, plain: what Cut and Check say of what Flow answers; problems with more.
  Conditions: none.
-/
namespace Go.Proofs.Ytmioocddmlfboaa
open Go Bf
theorem LexMax.check {fits : List (List Bool)} {sup need : List Int} {a : Nat → Nat → Int} (h : Bf.Flow (pbOf fits sup need) a fun _ => 0) : CheckP fits sup need (allocOf a need.length sup.length) := by
  have e : ∀ i j, i < sup.length → j < need.length → am2 (allocOf a need.length sup.length) i j = a i j := fun i j hi hj => am2_of (r := rowOf a need.length i) (by simp [allocOf, hi]) (by simp [rowOf, hj])
  refine ⟨by simp, fun r hr => ?_, fun i j hi hj => ?_, fun i j hi hj h0 => ?_, fun i hi => ?_, fun j hj => ?_⟩
  · obtain ⟨k, -, rfl⟩ := List.mem_map.1 hr
    simp
  · rw [e i j hi hj]; exact h.nn i hi j (Nat.le_of_lt hj)
  · rw [e i j hi hj] at h0
    exact h.ok i hi j hj (by omega)
  · rw [sumN_congr (g := a i) (fun j hj => e i j hi hj)]
    have h1 : sumN need.length (a i) + a i need.length = sup.getD i 0 := h.row i hi
    have h2 := h.nn i hi need.length (Nat.le_refl _)
    omega
  · rw [sumN_congr (g := fun i => a i j) (fun i hi => e i j hi hj)]
    have h1 : (0 : Int) + sumN sup.length (fun i => a i j) = need.getD j 0 := h.col j hj
    omega
/-- the set of a list of requests -/
def setOf (l : List Int) (b : Nat) : Bool := decide ((b : Int) ∈ l)
theorem AscTo.lt {m : Nat} {l : List Int} (h : AscTo m l l.length) : ∀ (i : Nat) (x : Int), l[i]? = some x → ∀ j y, j < i → l[j]? = some y → y < x
  | 0, _, _, j, _, hj, _ => by omega
  | i + 1, x, hx, j, y, hj, hy => by
    have hl := (List.getElem?_eq_some_iff.1 hx).1
    obtain ⟨z, hz⟩ := get_of_lt (xs := l) (i := i) (by omega)
    have h1 := (h (i + 1) x hl hx).2.2 z (by omega) (by simpa using hz)
    by_cases e : j = i
    · subst e; rw [hz] at hy; cases hy; exact h1
    · have := h.lt i z hz j y (by omega) hy
      omega
theorem cutNeed_set {need l : List Int} (h : AscTo need.length l l.length) : ∀ i, i ≤ l.length → cutNeed need (l.take i) = sumN need.length fun b => if setOf (l.take i) b = true then need.getD b 0 else 0
  | 0, _ => by
    rw [List.take_zero]
    exact (sumN_zero fun b _ => by simp [setOf]).symm
  | i + 1, hi => by
    obtain ⟨x, hx⟩ := get_of_lt (xs := l) (i := i) (by omega)
    have h1 := h i x (by omega) hx
    obtain ⟨n, rfl⟩ : ∃ n : Nat, x = (n : Int) := ⟨x.toNat, by omega⟩
    rw [cutNeed_succ hx, cutNeed_set h i (by omega), Int.toNat_natCast]
    symm
    refine sumN_at (n := need.length) (s := n) (by omega) ?_ (fun b hb => ?_)
    · have hnot : setOf (l.take i) n = false := by
        simp only [setOf, decide_eq_false_iff_not]
        intro hm
        obtain ⟨j, hj⟩ := List.mem_iff_getElem?.1 hm
        rw [List.getElem?_take] at hj
        split at hj
        · rename_i hji
          have := h.lt i n hx j n hji hj
          omega
        · cases hj
      have hyes : setOf (l.take (i + 1)) n = true := by
        simp only [setOf, decide_eq_true_eq]
        rw [List.take_add_one, hx]
        simp
      rw [hnot, hyes]
      simp
    · have : setOf (l.take (i + 1)) b = setOf (l.take i) b := by
        unfold setOf
        rw [List.take_add_one, hx]
        simp only [List.mem_append, Option.mem_toList, decide_eq_decide]
        constructor
        · rintro (h | h)
          · exact h
          · simp at h; omega
        · exact .inl
      rw [this]
theorem cutP_iff {fits : List (List Bool)} {sup need l : List Int} (hv : Vld fits sup need) (h : AscTo need.length l l.length) : CutP fits sup need l ↔ 0 < lackOf (pbOf fits sup need) (setOf l) := by
  have h1 := cutNeed_set h l.length (Nat.le_refl _)
  rw [List.take_length] at h1
  have h2 : cutHave fits sup l sup.length = sumN sup.length fun k => if touches (pbOf fits sup need) (setOf l) k = true then sup.getD k 0 else 0 := sumN_congr fun k hk => by
    have hlf := hv.lf
    obtain ⟨row, hr⟩ := get_of_lt (xs := fits) (i := k) (by omega)
    have hrl := hv.rows row (List.mem_of_getElem? hr)
    have : cutTouch (fits.getD k []) l = touches (pbOf fits sup need) (setOf l) k := by
      rw [Bool.eq_iff_iff, touches_iff]
      unfold cutTouch
      rw [List.any_eq_true]
      constructor
      · rintro ⟨x, hx, hx2⟩
        obtain ⟨i, hi⟩ := List.mem_iff_getElem?.1 hx
        have h3 := h i x (List.getElem?_eq_some_iff.1 hi).1 hi
        refine ⟨x.toNat, by show x.toNat < need.length; omega, ?_, hx2⟩
        simp only [setOf, decide_eq_true_eq]
        rw [Int.toNat_of_nonneg h3.1]
        exact hx
      · rintro ⟨b, h3, h4, h5⟩
        simp only [setOf, decide_eq_true_eq] at h4
        exact ⟨(b : Int), h4, h5⟩
    rw [this]
  unfold CutP
  rw [h1, h2]
  unfold lackOf
  show _ ∧ _ < _ ↔ 0 < (sumN need.length fun b => if setOf l b = true then need.getD b 0 else 0) - (sumN sup.length fun k => if touches (pbOf fits sup need) (setOf l) k = true then sup.getD k 0 else 0)
  constructor
  · rintro ⟨-, h3⟩; omega
  · intro h3; exact ⟨h, by omega⟩
theorem CutP.not_feas {fits : List (List Bool)} {sup need l : List Int} (hv : Vld fits sup need) (h : CutP fits sup need l) : ¬ Feas (pbOf fits sup need) := fun hf => by
  have h1 := (cutP_iff hv h.1).1 h
  have h2 := hf.lack (setOf l)
  omega
theorem memF_asc (S : Nat → Bool) (m : Nat) : AscTo m (memF S m) (memF S m).length := by
  intro q x hq hx
  have e : memF S m = (idx S m).map Int.ofNat := rfl
  rw [e, List.getElem?_map] at hx
  cases hi : (idx S m)[q]? with
  | none => rw [hi] at hx; cases hx
  | some b =>
    rw [hi] at hx
    simp at hx
    subst hx
    have hb := (idx_mem hi).1
    refine ⟨by omega, by omega, fun y h0 hy => ?_⟩
    rw [e, List.getElem?_map] at hy
    cases hj : (idx S m)[q - 1]? with
    | none => rw [hj] at hy; cases hy
    | some c =>
      rw [hj] at hy
      simp at hy
      subst hy
      have hp : (idx S m).Pairwise (· < ·) := List.Pairwise.filter _ List.pairwise_lt_range
      rw [List.pairwise_iff_getElem] at hp
      obtain ⟨h1, h2⟩ := List.getElem?_eq_some_iff.1 hi
      obtain ⟨h3, h4⟩ := List.getElem?_eq_some_iff.1 hj
      have := hp (q - 1) q h3 h1 (by omega)
      rw [h2, h4] at this
      omega
theorem memF_set (S : Nat → Bool) (m b : Nat) (hb : b < m) : setOf (memF S m) b = S b := by
  rw [Bool.eq_iff_iff]
  simp only [setOf, decide_eq_true_eq]
  unfold memF
  simp only [List.mem_map, List.mem_filter, List.mem_range]
  constructor
  · rintro ⟨c, ⟨-, h⟩, e⟩
    have : c = b := by have : (c : Int) = (b : Int) := e; omega
    subst this
    exact h
  · intro h
    exact ⟨b, ⟨hb, h⟩, rfl⟩
theorem cutFin_cut {fits : List (List Bool)} {sup need : List Int} (hv : Vld fits sup need) (hn : ¬ Feas (pbOf fits sup need)) : CutP fits sup need (memF (cutFin fits sup need) need.length) := by
  rw [cutP_iff hv (memF_asc _ _)]
  have e : lackOf (pbOf fits sup need) (setOf (memF (cutFin fits sup need) need.length)) = lackOf (pbOf fits sup need) (cutFin fits sup need) := lackOf_congr (fun b hb => memF_set _ _ b hb)
  rw [e]
  exact cutFin_lack hv hn
end Go.Proofs.Ytmioocddmlfboaa
/-
  Matching, plain: problems with more to give, or less to serve.
  Conditions: none.
-/
namespace Go.Proofs.Ytmioocddmlfboaa
open Go Bf
/-- where no set lacks more, what was possible remains so -/
theorem feas_mono {p q : Pb} (hm : p.m = q.m) (hps : ∀ k, k < p.n → 0 ≤ p.sup k) (hpn : ∀ b, b < p.m → 0 ≤ p.need b) (hqs : ∀ k, k < q.n → 0 ≤ q.sup k) (hqn : ∀ b, b < q.m → 0 ≤ q.need b) (h : ∀ D, lackOf q D ≤ lackOf p D) (hf : Feas p) : Feas q := by
  rw [feas_iff hqs hqn]
  intro D
  exact Int.le_trans (h D) (hf.lack D)
theorem more_sup {fits : List (List Bool)} {sup need : List Int} (hv : Vld fits sup need) {row : List Bool} (hr : row.length = need.length) {x : Int} (hx : 0 ≤ x ∧ x ≤ 1048576) (h64 : sup.length + 1 ≤ 64) (hf : Feas (pbOf fits sup need)) : Vld (fits ++ [row]) (sup ++ [x]) need ∧ Feas (pbOf (fits ++ [row]) (sup ++ [x]) need) := by
  have hv2 : Vld (fits ++ [row]) (sup ++ [x]) need := by
    refine ⟨by simpa using h64, hv.ln, by simpa using hv.lf, fun r h => ?_, fun z h => ?_, hv.rn⟩
    · rcases List.mem_append.1 h with h | h
      · exact hv.rows r h
      · simp at h; subst h; exact hr
    · rcases List.mem_append.1 h with h | h
      · exact hv.rs z h
      · simp at h; subst h; exact hx
  refine ⟨hv2, feas_mono (p := pbOf fits sup need) rfl hv.sup0 hv.need0 hv2.sup0 hv2.need0 (fun D => ?_) hf⟩
  have hlf := hv.lf
  unfold lackOf
  refine Int.sub_le_sub (Int.le_refl _) ?_
  show (sumN sup.length fun k => if touches (pbOf fits sup need) D k = true then sup.getD k 0 else 0) ≤ sumN (sup ++ [x]).length fun k => if touches (pbOf (fits ++ [row]) (sup ++ [x]) need) D k = true then (sup ++ [x]).getD k 0 else 0
  rw [List.length_append]
  show _ ≤ sumN sup.length _ + _
  have h1 : (sumN sup.length fun k => if touches (pbOf (fits ++ [row]) (sup ++ [x]) need) D k = true then (sup ++ [x]).getD k 0 else 0) = sumN sup.length fun k => if touches (pbOf fits sup need) D k = true then sup.getD k 0 else 0 := sumN_congr fun k hk => by
    have e1 : (sup ++ [x]).getD k 0 = sup.getD k 0 := by
      rw [List.getD_eq_getElem?_getD, List.getElem?_append_left hk, ← List.getD_eq_getElem?_getD]
    have e2 : (fits ++ [row]).getD k [] = fits.getD k [] := by
      rw [List.getD_eq_getElem?_getD, List.getElem?_append_left (by omega), ← List.getD_eq_getElem?_getD]
    have e3 : touches (pbOf (fits ++ [row]) (sup ++ [x]) need) D k = touches (pbOf fits sup need) D k := by
      unfold touches
      show ((List.range need.length).any fun b => D b && ((fits ++ [row]).getD k []).getD b false) = (List.range need.length).any fun b => D b && (fits.getD k []).getD b false
      rw [e2]
    rw [e1, e3]
  rw [h1]
  have h2 : (0 : Int) ≤ if touches (pbOf (fits ++ [row]) (sup ++ [x]) need) D sup.length = true then (sup ++ [x]).getD sup.length 0 else 0 := by
    split
    · rw [List.getD_eq_getElem?_getD, List.getElem?_append_right (Nat.le_refl _)]
      simpa using hx.1
    · exact Int.le_refl _
  exact Int.le_add_of_nonneg_right h2
theorem large_sup {fits : List (List Bool)} {sup need : List Int} (hv : Vld fits sup need) {i : Nat} {x y : Int} (hi : sup[i]? = some x) (hxy : x ≤ y) (hy : y ≤ 1048576) (hf : Feas (pbOf fits sup need)) : Vld fits (sup.set i y) need ∧ Feas (pbOf fits (sup.set i y) need) := by
  have hil := (List.getElem?_eq_some_iff.1 hi).1
  have hxr := hv.rs x (List.mem_of_getElem? hi)
  have hv2 : Vld fits (sup.set i y) need := ⟨by simpa using hv.ls, hv.ln, by simpa using hv.lf, hv.rows, fun z h => by
    rcases List.mem_or_eq_of_mem_set h with h | rfl
    · exact hv.rs z h
    · omega, hv.rn⟩
  refine ⟨hv2, feas_mono (p := pbOf fits sup need) rfl hv.sup0 hv.need0 hv2.sup0 hv2.need0 (fun D => ?_) hf⟩
  unfold lackOf
  refine Int.sub_le_sub (Int.le_refl _) ?_
  show (sumN sup.length fun k => if touches (pbOf fits sup need) D k = true then sup.getD k 0 else 0) ≤ sumN (sup.set i y).length fun k => if touches (pbOf fits sup need) D k = true then (sup.set i y).getD k 0 else 0
  rw [List.length_set]
  refine sumN_le fun k hk => ?_
  split
  · by_cases e : i = k
    · subst e
      rw [getD_set_self' hk, getD_of hi]; exact hxy
    · rw [getD_set_ne' e]; exact Int.le_refl _
  · exact Int.le_refl _
theorem less_need {fits : List (List Bool)} {sup need : List Int} (hv : Vld fits sup need) {i : Nat} {x y : Int} (hi : need[i]? = some x) (hxy : y ≤ x) (hy : 0 ≤ y) (hf : Feas (pbOf fits sup need)) : Vld fits sup (need.set i y) ∧ Feas (pbOf fits sup (need.set i y)) := by
  have hil := (List.getElem?_eq_some_iff.1 hi).1
  have hxr := hv.rn x (List.mem_of_getElem? hi)
  have hv2 : Vld fits sup (need.set i y) := ⟨hv.ls, by simpa using hv.ln, hv.lf, fun r h => by simpa using hv.rows r h, hv.rs, fun z h => by
    rcases List.mem_or_eq_of_mem_set h with h | rfl
    · exact hv.rn z h
    · omega⟩
  refine ⟨hv2, feas_mono (p := pbOf fits sup need) (by simp [pbOf]) hv.sup0 hv.need0 hv2.sup0 hv2.need0 (fun D => ?_) hf⟩
  unfold lackOf
  have h2 : (sumN (pbOf fits sup (need.set i y)).n fun k => if touches (pbOf fits sup (need.set i y)) D k = true then (pbOf fits sup (need.set i y)).sup k else 0) = sumN (pbOf fits sup need).n fun k => if touches (pbOf fits sup need) D k = true then (pbOf fits sup need).sup k else 0 := sumN_congr fun k _ => by
    have : touches (pbOf fits sup (need.set i y)) D k = touches (pbOf fits sup need) D k := by
      unfold touches
      show ((List.range (need.set i y).length).any _) = _
      rw [List.length_set]
      rfl
    rw [this]
    rfl
  rw [h2]
  refine Int.sub_le_sub ?_ (Int.le_refl _)
  show (sumN (need.set i y).length fun b => if D b = true then (need.set i y).getD b 0 else 0) ≤ sumN need.length fun b => if D b = true then need.getD b 0 else 0
  rw [List.length_set]
  refine sumN_le fun b hb => ?_
  split
  · by_cases e : i = b
    · subst e
      rw [getD_set_self' hb, getD_of hi]; exact hxy
    · rw [getD_set_ne' e]; exact Int.le_refl _
  · exact Int.le_refl _
theorem wide_fits {fits : List (List Bool)} {sup need : List Int} (hv : Vld fits sup need) {i j : Nat} {row : List Bool} (hi : fits[i]? = some row) (hf : Feas (pbOf fits sup need)) : Vld (fits.set i (row.set j true)) sup need ∧ Feas (pbOf (fits.set i (row.set j true)) sup need) := by
  have hil := (List.getElem?_eq_some_iff.1 hi).1
  have hrl := hv.rows row (List.mem_of_getElem? hi)
  have hv2 : Vld (fits.set i (row.set j true)) sup need := ⟨hv.ls, hv.ln, by simpa using hv.lf, fun r h => by
    rcases List.mem_or_eq_of_mem_set h with h | rfl
    · exact hv.rows r h
    · simpa using hrl, hv.rs, hv.rn⟩
  refine ⟨hv2, feas_mono (p := pbOf fits sup need) rfl hv.sup0 hv.need0 hv2.sup0 hv2.need0 (fun D => ?_) hf⟩
  unfold lackOf
  refine Int.sub_le_sub (Int.le_refl _) (sumN_le fun k hk => ?_)
  have h0 := (getD_rng hv.rs k).1
  show (if touches (pbOf fits sup need) D k = true then sup.getD k 0 else 0) ≤ if touches (pbOf (fits.set i (row.set j true)) sup need) D k = true then sup.getD k 0 else 0
  by_cases ht : touches (pbOf fits sup need) D k = true
  · have : touches (pbOf (fits.set i (row.set j true)) sup need) D k = true := by
      obtain ⟨b, h1, h2, h3⟩ := touches_iff.1 ht
      refine touches_iff.2 ⟨b, h1, h2, ?_⟩
      have h3' : (fits.getD k []).getD b false = true := h3
      show ((fits.set i (row.set j true)).getD k []).getD b false = true
      by_cases e : i = k
      · subst e
        rw [getD_of (d := []) hi] at h3'
        rw [getD_of (d := []) (List.getElem?_set_self hil)]
        by_cases e2 : j = b
        · subst e2
          have hb : j < row.length := by
            by_cases h : j < row.length
            · exact h
            · rw [List.getD_eq_getElem?_getD, List.getElem?_eq_none (by omega)] at h3'; cases h3'
          rw [getD_of (List.getElem?_set_self hb)]
        · rw [List.getD_eq_getElem?_getD, List.getElem?_set_ne e2, ← List.getD_eq_getElem?_getD]; exact h3'
      · have e9 : (fits.set i (row.set j true)).getD k [] = fits.getD k [] := by
          rw [List.getD_eq_getElem?_getD, List.getElem?_set_ne e, ← List.getD_eq_getElem?_getD]
        rw [e9]; exact h3'
    rw [if_pos ht, if_pos this]; exact Int.le_refl _
  · rw [if_neg ht]
    split
    · exact h0
    · exact Int.le_refl _
theorem fewer_need {fits : List (List Bool)} {sup need : List Int} (hv : Vld fits sup need) (o : Nat → Bool) (hf : Feas (pbOf fits sup need)) : Vld (fits.map fun r => keep o r 0) sup (keep o need 0) ∧ Feas (pbOf (fits.map fun r => keep o r 0) sup (keep o need 0)) := ⟨keep_vld hv o, feas_keep hv o (feas_S hv hf _)⟩
end Go.Proofs.Ytmioocddmlfboaa
/-
  Matching: the contract of Flow.
  Conditions: none.
-/
namespace Go.Proofs.Ytmioocddmlfboaa
open Go Bf
attribute [local irreducible] Tr Exec Stab HasTy Go.Addr.add IntKind.wrap
set_option maxHeartbeats 8000000 in
set_option maxRecDepth 20000 in
theorem flow_fn (M : Mem) (A0 A1 A2 : Option Addr) (c0 c1 c2 : Nat) (fits : List (List Bool)) (sup need : List Int) (hf : Fits2 M (.slice A0 fits.length c0) fits) (hs : Ints M (.slice A1 sup.length c1) sup) (hn : Ints M (.slice A2 need.length c2) need) (rs : I64s sup) (rn : I64s need) :
    Fn0 Try.prog 15 [.slice A0 fits.length c0, .slice A1 sup.length c1, .slice A2 need.length c2] M (fun r M' => FlowR fits sup need r M') := by
  refine Fn.intro Try.func15 rfl rfl Try.ntmps15 rfl fun E F => ?_
  repeat (first | ((with_reducible refine Tr.step rfl ?_); (first | ((with_reducible refine Knd.move ?_); (refine Exec.stab rfl (Stab.move rfl) rfl ?_)) | ((with_reducible refine Knd.assign ?_); (refine Exec.stab rfl (Stab.assign rfl) rfl ?_)))) | (with_reducible refine Tr.next ?_) | (with_reducible refine Tr.seq ?_) | (with_reducible refine Tr.region ?_) | (with_reducible refine Tr.nil ?_))
  ((refine Tr.step rfl ?_)); refine Exec.call0 rfl (valid_fn M A0 A1 A2 c0 c1 c2 fits sup need hf hs hn rs rn) rfl ?_
  rintro _ _ _ ⟨rfl, rfl⟩
  cases hvv : validF fits sup need
  · repeat (first | ((with_reducible refine Tr.step rfl ?_); (first | ((with_reducible refine Knd.assign ?_); (refine Exec.stab rfl (Stab.assign rfl) rfl ?_)) | ((with_reducible refine Knd.unOp ?_); ((refine Exec.stab rfl (Stab.not rfl) rfl ?_))))) | (with_reducible refine Tr.next ?_) | (with_reducible refine Tr.seq ?_) | (with_reducible refine Tr.region ?_) | (with_reducible refine Tr.nil ?_) | (with_reducible refine Tr.ret ?_) | (with_reducible refine Tr.then_ret ?_) | (refine Tr.cond_bt rfl (by first | (with_reducible rfl) | (with_reducible assumption) | (with_reducible exact Bool.not_true) | (with_reducible exact Bool.not_false)) ?_))
    (refine Tr.done (by first | exact .inl rfl | exact .inr rfl) rfl (by repeat (first | exact RVs.nil | (apply RVs.cons; (exact RV.tmp rfl)))) (by first | exact Mem.le.refl _ | assumption) (by exact ⟨[], rfl⟩) ⟨rfl, ?_⟩)
    exact .inl ⟨hvv, rfl⟩
  have hv := vld_iff.1 hvv
  have l1 := hv.ls
  have l2 := hv.ln
  have l3 := hv.lf
  repeat (first | ((with_reducible refine Tr.step rfl ?_); (first | ((with_reducible refine Knd.move ?_); (refine Exec.stab rfl (Stab.move rfl) rfl ?_)) | ((with_reducible refine Knd.unOp ?_); ((refine Exec.stab rfl (Stab.not rfl) rfl ?_))))) | (with_reducible refine Tr.next ?_) | (with_reducible refine Tr.seq ?_) | (with_reducible refine Tr.region ?_) | (with_reducible refine Tr.nil ?_) | (with_reducible refine Tr.skip ?_) | (refine Tr.cond_bf rfl (by first | (with_reducible rfl) | (with_reducible assumption) | (with_reducible exact Bool.not_true) | (with_reducible exact Bool.not_false)) ?_))
  ((refine Tr.step rfl ?_))
  refine Exec.call (A := []) rfl (begin_fn M A0 fits.length c0 A1 A2 c1 c2 sup need hs hn hv.ls hv.ln) (List.Perm.refl _) rfl ?_
  rintro _ _ _ _ ⟨o, rws0, rfl, ho, ho1, ho2, hrw, rfl, rfl⟩
  repeat (first | ((with_reducible refine Tr.step rfl ?_); (first | ((with_reducible refine Knd.move ?_); (refine Exec.stab rfl (Stab.move rfl) rfl ?_)) | ((with_reducible refine Knd.assign ?_); (refine Exec.stab rfl (Stab.assign rfl) rfl ?_)))) | (with_reducible refine Tr.next ?_) | (with_reducible refine Tr.seq ?_) | (with_reducible refine Tr.region ?_) | (with_reducible refine Tr.nil ?_))
  ((refine Tr.step rfl ?_))
  refine Exec.call (A := stL o (need.length + 1) rws0 need (List.replicate 64 0) (List.replicate 65 0)) rfl (fill_fn M o A0 c0 fits sup need hv hf ho ho1 ho2 _ rws0 need _ _ (begin_shape hrw) rfl (begin_flow hv hrw) (by simp) (by simp)) (List.Perm.refl _) rfl ?_
  rintro _ _ _ _ ⟨rfl, rws, lack, tk, gv, rfl, hsh, hll, ltk, lgv, hfi⟩
  generalize rws0.map (·.1) = bs at hsh
  have hlk := lack_rng hv hll hfi.1
  have hL := hfi.isLack
  have hL0 := hL.zero hv.sup0 hv.need0
  have hls := sumN_list lack
  rw [hll] at hls
  rw [← hls] at hL hL0
  have r1 := sum_rng (by omega) hlk
  simp only [stL, List.cons_append, List.nil_append]
  repeat (first | ((with_reducible refine Tr.step rfl ?_); (first | ((with_reducible refine Knd.move ?_); (refine Exec.stab rfl (Stab.move rfl) rfl ?_)) | ((with_reducible refine Knd.load ?_); ((refine Exec.stab rfl (Stab.load rfl (tysOk.get rfl) rfl (by repeat (first | exact Has.here | apply Has.there)) rfl) rfl ?_))) | ((with_reducible refine Knd.fieldAddr ?_); ((refine Exec.stab rfl (Stab.fieldZ rfl (tysOk.get rfl) rfl rfl (tysOk.get rfl) rfl) rfl ?_))) | ((with_reducible refine Knd.nilCheck ?_); (refine Exec.stab rfl (Stab.nilCheck rfl) rfl ?_)))) | (with_reducible refine Tr.next ?_) | (with_reducible refine Tr.seq ?_) | (with_reducible refine Tr.region ?_) | (with_reducible refine Tr.nil ?_))
  refine own_cap o.Al (by repeat (first | exact Has.here | apply Has.there)) (fun hA1 hA2 => ?_)
  ((refine Tr.step rfl ?_))
  refine Exec.call (A := [ownS 3 1 o.Al lack.length o.cl (intV lack)]) (F := box o.sb 56 _ :: ownS 23 1 o.Am _ _ _ :: rowsR rws :: F) rfl (sum_fn M [ownS 3 1 o.Al lack.length o.cl (intV lack)] o.Al o.cl lack hA1 (fun h => by
    cases hAl : o.Al with
    | none => exact absurd (List.eq_nil_of_length_eq_zero (hA2 hAl)) h
    | some a => rfl) (Src.own .here) (small_of (by omega) hlk)) (List.perm_middle (l₁ := [_, _, _])).symm rfl ?_
  rintro _ _ _ _ ⟨rfl, rfl, rfl⟩
  by_cases hs0 : 0 < lack.sum
  · repeat (first | ((with_reducible refine Tr.step rfl ?_); (first | ((with_reducible refine Knd.move ?_); (refine Exec.stab rfl (Stab.move rfl) rfl ?_)) | ((with_reducible refine Knd.binOp ?_); ((refine Exec.stab rfl (Stab.int rfl rfl rfl) rfl ?_))))) | (with_reducible refine Tr.next ?_) | (with_reducible refine Tr.seq ?_) | (with_reducible refine Tr.region ?_) | (with_reducible refine Tr.nil ?_) | (refine Tr.cond_t rfl (by first | (with_reducible assumption) | (with_reducible rfl) | (with_reducible exact (not_not_intro rfl)) | omega) ?_))
    ((refine Tr.step rfl ?_)); refine Exec.call0 rfl (cutOf_fn M A0 A1 A2 c0 c1 c2 fits sup need hf hs hn hv) rfl ?_
    rintro _ M2 hm2 ⟨B, k, rfl, hI⟩
    repeat (first | ((with_reducible refine Tr.step rfl ?_); (((with_reducible refine Knd.assign ?_); (refine Exec.stab rfl (Stab.assign rfl) rfl ?_)))) | (with_reducible refine Tr.next ?_) | (with_reducible refine Tr.nil ?_) | (with_reducible refine Tr.ret ?_) | (with_reducible refine Tr.then_ret ?_))
    (refine Tr.done (by first | exact .inl rfl | exact .inr rfl) rfl (by repeat (first | exact RVs.nil | (apply RVs.cons; (exact RV.tmp rfl)))) (by first | exact Mem.le.refl _ | assumption) (by exact ⟨[_, _, _, _], rfl⟩) ⟨rfl, ?_⟩)
    exact .inr (.inl ⟨hv, fun h => by have := hL0.2 h; omega, B, k, rfl, hI⟩)
  have hz : lack.sum = 0 := by omega
  have hfl : Bf.Flow (pbOf fits sup need) (amt rws) fun _ => 0 := hfi.1.zero (hls.symm.trans hz)
  repeat (first | ((with_reducible refine Tr.step rfl ?_); (first | ((with_reducible refine Knd.move ?_); (refine Exec.stab rfl (Stab.move rfl) rfl ?_)) | ((with_reducible refine Knd.len ?_); ((refine Exec.stab rfl (Stab.len rfl (tysOk.get rfl) rfl) rfl ?_))) | ((with_reducible refine Knd.binOp ?_); ((refine Exec.stab rfl (Stab.int rfl rfl rfl) rfl ?_))))) | (with_reducible refine Tr.next ?_) | (with_reducible refine Tr.seq ?_) | (with_reducible refine Tr.region ?_) | (with_reducible refine Tr.nil ?_) | (with_reducible refine Tr.skip ?_) | (with_reducible refine Tr.block ?_) | (refine Tr.cond_f rfl (by first | (with_reducible assumption) | (with_reducible rfl) | (with_reducible exact (not_not_intro rfl)) | omega) ?_))
  simp only [List.cons_append, List.nil_append]
  refine Tr.front (x := rowsR _) (by repeat (first | exact Del.here | apply Del.there)) ?_
  refine Tr.front (x := ownS 23 1 _ _ _ _) (by repeat (first | exact Del.here | apply Del.there)) ?_
  refine Tr.front (x := box o.sb 56 _) (by repeat (first | exact Del.here | apply Del.there)) ?_
  refine Tr.own_nil 23 1 ?_
  refine Tr.loop (α := Nat × List (Nat × List Int) × List Int × List Int × Mem × Option Addr × Nat × List Value) (fun y => ⟨72, [(36, .int .i64 (y.1 : Int)), (35, .int .i64 (sup.length : Int)), (6, .slice y.2.2.2.2.2.1 y.1 y.2.2.2.2.2.2.1), (10, .pointer (some ⟨o.sb, 0, none⟩)), (0, .slice A0 fits.length c0), (2, .slice A2 need.length c2)], [], y.2.2.2.2.1, ownS 23 1 y.2.2.2.2.2.1 y.1 y.2.2.2.2.2.2.1 y.2.2.2.2.2.2.2 :: (stL o (need.length + 1) y.2.1 lack y.2.2.1 y.2.2.2.1 ++ F)⟩)
    (fun y => y.1 ≤ sup.length ∧ Shape sup.length need.length bs y.2.1 ∧ y.2.2.1.length = 64 ∧ y.2.2.2.1.length = 65 ∧ (Bf.Flow (pbOf fits sup need) (amt y.2.1) fun _ => 0) ∧ LexTo (pbOf fits sup need) (amt y.2.1) y.1 0 ∧ Mem.le M y.2.2.2.2.1 ∧ y.2.2.2.2.2.2.1 ≤ 9223372036854775807 ∧ Elems 1 RRowI y.2.2.2.2.1 y.2.2.2.2.2.2.2 (allocOf (amt y.2.1) need.length y.1)) (fun y => sup.length - y.1) (0, rws, tk, gv, M, none, 0, []) ⟨Nat.zero_le _, hsh, ltk, lgv, hfl, LexTo.start _ _, Mem.le.refl _, by simp, Elems.nil⟩ (holds_sub (by repeat (first | exact SubFr.nil | refine SubFr.cons rfl ?_)) (by repeat (first | exact DropL.refl | apply DropL.skip))) (fun y hy => ?_)
  clear hsh ltk lgv hfl hfi hL hL0 hls hs0
  clear rws tk gv
  obtain ⟨i, rws, tk, gv, M1, A6, c6, cells⟩ := y
  obtain ⟨hi, hsh, ltk, lgv, hfl, hlex, hM, hc6, hel⟩ := hy
  simp only at hi hsh ltk lgv hfl hlex hM hc6 hel
  dsimp only
  have hcl : cells.length = i := by have := hel.1; simpa using this
  simp only [stL, List.cons_append, List.nil_append]
  by_cases hin : i < sup.length
  rotate_left
  · have ei : i = sup.length := by omega
    subst ei
    repeat (first | ((with_reducible refine Tr.step rfl ?_); (first | ((with_reducible refine Knd.move ?_); (refine Exec.stab rfl (Stab.move rfl) rfl ?_)) | ((with_reducible refine Knd.assign ?_); (refine Exec.stab rfl (Stab.assign rfl) rfl ?_)) | ((with_reducible refine Knd.binOp ?_); ((refine Exec.stab rfl (Stab.int rfl rfl rfl) rfl ?_))))) | (with_reducible refine Tr.next ?_) | (with_reducible refine Tr.seq ?_) | (with_reducible refine Tr.region ?_) | (with_reducible refine Tr.nil ?_) | (with_reducible refine Tr.exit ?_) | (with_reducible refine Tr.ret ?_) | (with_reducible refine Tr.then_exit ?_) | ((with_reducible refine Tr.in_exit ?_ ?_); (exact rfl)) | (refine Tr.cond_f rfl (by first | (with_reducible assumption) | (with_reducible rfl) | (with_reducible exact (not_not_intro rfl)) | omega) ?_))
    refine Tr.publish (r := ownS 23 1 A6 _ _ _) (by repeat (first | exact Del.here | apply Del.there)) (fun M2 hm2 hok => ?_)
    have hfin := hM.trans hm2
    have hI : Ints2 M2 (.slice A6 (allocOf (amt rws) need.length sup.length).length c6) (allocOf (amt rws) need.length sup.length) := SlOf.ofOwn hok (by simp) hc6 (hel.mono RRowI.mono hm2)
    (refine Tr.done (by first | exact .inl rfl | exact .inr rfl) rfl (by repeat (first | exact RVs.nil | (apply RVs.cons; (exact RV.tmp rfl)))) (by first | exact Mem.le.refl _ | assumption) (by exact ⟨[_, _, _, _], rfl⟩) ⟨rfl, ?_⟩)
    exact .inr (.inr ⟨hv, amt rws, LexTo.max hlex hfl, A6, c6, by simp only [allocOf_length]; rfl, hI⟩)
  obtain ⟨frow, hfr⟩ := get_of_lt (xs := fits) (i := i) (by omega)
  have hfrl := hv.rows frow (List.mem_of_getElem? hfr)
  have hf1 : Fits2 M1 (.slice A0 fits.length c0) fits := hf.mono RRowB.mono hM
  obtain ⟨hA0, fch, fat, fB, fk, rfl, hfB⟩ := hf1.elem hfr
  repeat (first | ((with_reducible refine Tr.step rfl ?_); (first | ((with_reducible refine Knd.move ?_); (refine Exec.stab rfl (Stab.move rfl) rfl ?_)) | ((with_reducible refine Knd.assign ?_); (refine Exec.stab rfl (Stab.assign rfl) rfl ?_)) | ((with_reducible refine Knd.len ?_); ((refine Exec.stab rfl (Stab.len rfl (tysOk.get rfl) rfl) rfl ?_))) | ((with_reducible refine Knd.binOp ?_); ((refine Exec.stab rfl (Stab.int rfl rfl rfl) rfl ?_))))) | (with_reducible refine Tr.next ?_) | (with_reducible refine Tr.seq ?_) | (with_reducible refine Tr.region ?_) | (with_reducible refine Tr.nil ?_) | (with_reducible refine Tr.skip ?_) | (with_reducible refine Tr.block ?_) | (refine Tr.cond_t rfl (by first | (with_reducible assumption) | (with_reducible rfl) | (with_reducible exact (not_not_intro rfl)) | omega) ?_))
  refine Tr.loop (α := Nat × List (Nat × List Int) × List Int × List Int) (fun y => ⟨72, [(41, .int .i64 (y.1 : Int)), (40, .int .i64 (need.length : Int)), (11, .int .i64 (i : Int)), (36, .int .i64 (i : Int)), (35, .int .i64 (sup.length : Int)), (6, .slice A6 i c6), (10, .pointer (some ⟨o.sb, 0, none⟩)), (0, .slice A0 fits.length c0), (2, .slice A2 need.length c2)], [], M1, ownS 23 1 A6 i c6 cells :: (stL o (need.length + 1) y.2.1 lack y.2.2.1 y.2.2.2 ++ F)⟩)
    (fun y => y.1 ≤ need.length ∧ Shape sup.length need.length bs y.2.1 ∧ y.2.2.1.length = 64 ∧ y.2.2.2.length = 65 ∧ (Bf.Flow (pbOf fits sup need) (amt y.2.1) fun _ => 0) ∧ LexTo (pbOf fits sup need) (amt y.2.1) i y.1 ∧ Elems 1 RRowI M1 cells (allocOf (amt y.2.1) need.length i)) (fun y => need.length - y.1) (0, rws, tk, gv) ⟨Nat.zero_le _, hsh, ltk, lgv, hfl, hlex, hel⟩ (holds_sub (by repeat (first | exact SubFr.nil | refine SubFr.cons rfl ?_)) (by repeat (first | exact DropL.refl | apply DropL.skip))) (fun y hy => ?_)
  clear hsh ltk lgv hfl hlex hel
  obtain ⟨j, rws, tk, gv⟩ := y
  obtain ⟨hj, hsh, ltk, lgv, hfl, hlex, hel⟩ := hy
  simp only at hj hsh ltk lgv hfl hlex hel
  dsimp only
  simp only [stL, List.cons_append, List.nil_append]
  by_cases hjn : j < need.length
  · obtain ⟨x, hx⟩ := get_of_lt (xs := frow) (i := j) (by omega)
    obtain ⟨hA, hat⟩ := hfB.at hx
    have hfx : (fits.getD i []).getD j false = x := by rw [getD_of (d := []) hfr, getD_of (d := false) hx]
    cases x
    · repeat (first | ((with_reducible refine Tr.step rfl ?_); (first | ((with_reducible refine Knd.move ?_); (refine Exec.stab rfl (Stab.move rfl) rfl ?_)) | ((with_reducible refine Knd.assign ?_); (refine Exec.stab rfl (Stab.assign rfl) rfl ?_)) | ((with_reducible refine Knd.load ?_); ((refine Exec.stab rfl (Stab.loadM rfl (tysOk.get rfl) rfl (by assumption)) rfl ?_))) | ((with_reducible refine Knd.binOp ?_); (first | (refine Exec.stab rfl (Stab.addi rfl rfl (by omega)) rfl ?_) | (refine Exec.stab rfl (Stab.int rfl rfl rfl) rfl ?_))) | ((with_reducible refine Knd.indexAddr ?_); ((refine Exec.stab rfl (Stab.indexAddr rfl rfl (tysOk.get rfl) rfl (tysOk.get rfl) rfl (by omega) (by omega) (by first | rfl | assumption)) rfl ?_))))) | (with_reducible refine Tr.next ?_) | (with_reducible refine Tr.seq ?_) | (with_reducible refine Tr.region ?_) | (with_reducible refine Tr.nil ?_) | (with_reducible refine Tr.skip ?_) | (with_reducible refine Tr.block ?_) | (with_reducible refine Tr.in_normal ?_) | (refine Tr.cond_bf rfl (by first | (with_reducible rfl) | (with_reducible assumption) | (with_reducible exact Bool.not_true) | (with_reducible exact Bool.not_false)) ?_) | (refine Tr.cond_t rfl (by first | (with_reducible assumption) | (with_reducible rfl) | (with_reducible exact (not_not_intro rfl)) | omega) ?_))
      refine Tr.again (j + 1, rws, tk, gv) ⟨by simp only; omega, hsh, ltk, lgv, hfl, hlex.skip hfl hin hjn hfx, hel⟩ (by simp only; omega) (holds_sub (by repeat (first | exact SubFr.nil | refine SubFr.cons rfl ?_)) (by repeat (first | exact DropL.refl | apply DropL.skip)))
    · repeat (first | ((with_reducible refine Tr.step rfl ?_); (first | ((with_reducible refine Knd.move ?_); (refine Exec.stab rfl (Stab.move rfl) rfl ?_)) | ((with_reducible refine Knd.assign ?_); (refine Exec.stab rfl (Stab.assign rfl) rfl ?_)) | ((with_reducible refine Knd.load ?_); ((refine Exec.stab rfl (Stab.loadM rfl (tysOk.get rfl) rfl (by assumption)) rfl ?_))) | ((with_reducible refine Knd.binOp ?_); ((refine Exec.stab rfl (Stab.int rfl rfl rfl) rfl ?_))) | ((with_reducible refine Knd.indexAddr ?_); ((refine Exec.stab rfl (Stab.indexAddr rfl rfl (tysOk.get rfl) rfl (tysOk.get rfl) rfl (by omega) (by omega) (by first | rfl | assumption)) rfl ?_))))) | (with_reducible refine Tr.next ?_) | (with_reducible refine Tr.seq ?_) | (with_reducible refine Tr.region ?_) | (with_reducible refine Tr.nil ?_) | (with_reducible refine Tr.skip ?_) | (with_reducible refine Tr.block ?_) | (refine Tr.cond_bt rfl (by first | (with_reducible rfl) | (with_reducible assumption) | (with_reducible exact Bool.not_true) | (with_reducible exact Bool.not_false)) ?_) | (refine Tr.cond_t rfl (by first | (with_reducible assumption) | (with_reducible rfl) | (with_reducible exact (not_not_intro rfl)) | omega) ?_))
      ((refine Tr.step rfl ?_))
      refine Exec.call (A := stL o (need.length + 1) rws lack tk gv) (F := ownS 23 1 A6 i c6 cells :: F) rfl (raise_fn M1 o A0 c0 fits sup need hv hf1 ho ho1 ho2 bs rws lack tk gv hsh hll hfl ltk lgv i j hin hjn hfx) (List.perm_middle (l₁ := [_, _, _, _])) rfl ?_
      rintro _ _ _ _ ⟨rfl, rws', tk', gv', rfl, hsh', ltk', lgv', hra, htop⟩
      have hco : allocOf (amt rws') need.length i = allocOf (amt rws) need.length i := allocOf_congr fun k hk c _ => by rw [hra.2.1 k hk]
      repeat (first | ((with_reducible refine Tr.step rfl ?_); (first | ((with_reducible refine Knd.move ?_); (refine Exec.stab rfl (Stab.move rfl) rfl ?_)) | ((with_reducible refine Knd.binOp ?_); ((refine Exec.stab rfl (Stab.addi rfl rfl (by omega)) rfl ?_))))) | (with_reducible refine Tr.next ?_) | (with_reducible refine Tr.region ?_) | (with_reducible refine Tr.nil ?_) | (with_reducible refine Tr.in_normal ?_))
      refine Tr.front (x := ownS 23 1 A6 _ _ _) (by repeat (first | exact Del.here | apply Del.there)) ?_
      refine Tr.again (j + 1, rws', tk', gv') ⟨by simp only; omega, hsh', ltk', lgv', hra.1, hlex.step hra htop hin hjn, by simp only [hco]; exact hel⟩ (by simp only; omega) (holds_sub (by repeat (first | exact SubFr.nil | refine SubFr.cons rfl ?_)) (by repeat (first | exact DropL.refl | apply DropL.skip)))
  have ej : j = need.length := by omega
  subst ej
  obtain ⟨⟨bi, row⟩, hr0⟩ := get_of_lt (xs := rws) (i := i) (by rw [hsh.n]; exact hin)
  have hrl : row.length = need.length + 1 := hsh.row _ (List.mem_of_getElem? hr0)
  have hp' : (ptrV (need.length + 1) rws)[i]? = some (.slice (some ⟨bi, 0, none⟩) (need.length + 1) (need.length + 1)) := by simp [ptrV, hr0]
  have hn' := hsh.n
  refine Tr.own_some o.Am (by repeat (first | exact Has.here | apply Has.there)) (by omega) (fun hAm => ?_)
  unfold rowsR
  refine Tr.many_out (by repeat (first | exact Del.here | apply Del.there)) (rows_get hr0) ?_
  repeat (first | ((with_reducible refine Tr.step rfl ?_); (first | ((with_reducible refine Knd.move ?_); (refine Exec.stab rfl (Stab.move rfl) rfl ?_)) | ((with_reducible refine Knd.load ?_); (first | (refine Exec.stab rfl (Stab.load rfl (tysOk.get rfl) rfl (by repeat (first | exact Has.here | apply Has.there)) rfl) rfl ?_) | (refine Exec.stab rfl (Stab.loadO rfl (tysOk.get rfl) rfl (by repeat (first | exact Has.here | apply Has.there)) (by assumption)) rfl ?_))) | ((with_reducible refine Knd.fieldAddr ?_); ((refine Exec.stab rfl (Stab.fieldZ rfl (tysOk.get rfl) rfl rfl (tysOk.get rfl) rfl) rfl ?_))) | ((with_reducible refine Knd.len ?_); ((refine Exec.stab rfl (Stab.len rfl (tysOk.get rfl) rfl) rfl ?_))) | ((with_reducible refine Knd.nilCheck ?_); (refine Exec.stab rfl (Stab.nilCheck rfl) rfl ?_)) | ((with_reducible refine Knd.binOp ?_); ((refine Exec.stab rfl (Stab.int rfl rfl rfl) rfl ?_))) | ((with_reducible refine Knd.indexAddr ?_); ((refine Exec.stab rfl (Stab.indexAddr rfl rfl (tysOk.get rfl) rfl (tysOk.get rfl) rfl (by omega) (by omega) (by first | rfl | assumption)) rfl ?_))) | ((with_reducible refine Knd.slice ?_); ((refine Exec.stab rfl (Stab.slice_h rfl rfl (tysOk.get rfl) rfl (tysOk.get rfl) (by omega) (by omega)) rfl ?_))))) | (with_reducible refine Tr.next ?_) | (with_reducible refine Tr.seq ?_) | (with_reducible refine Tr.region ?_) | (with_reducible refine Tr.nil ?_) | (with_reducible refine Tr.exit ?_) | (with_reducible refine Tr.then_exit ?_) | ((with_reducible refine Tr.in_exit ?_ ?_); (exact rfl)) | (refine Tr.cond_f rfl (by first | (with_reducible assumption) | (with_reducible rfl) | (with_reducible exact (not_not_intro rfl)) | omega) ?_))
  rw [show ((need.length : Int)).toNat = (row.take need.length).length by simp; omega]
  have htk : row.take need.length = rowOf (amt rws) need.length i := row_take hr0 hrl
  have htl : (row.take need.length).length = need.length := by simp; omega
  have hcln := clone_lend M1 bi need.length row hrl l2
  ((refine Tr.step rfl ?_))
  refine Exec.call (A := [box bi 3 (intV row)]) rfl hcln (List.Perm.refl _) rfl ?_
  rintro _ _ _ _ ⟨A1, rfl, rfl, B, k, rfl, hk, rfl⟩
  simp only [List.cons_append, List.nil_append]
  refine Tr.publish (r := ownS 3 1 B _ _ _) (by repeat (first | exact Del.here | apply Del.there)) (fun M2 hm2 hok => ?_)
  have hI : Ints M2 (.slice B (row.take need.length).length k) (row.take need.length) := Ints.ofOwn hok rfl hk
  refine Tr.many_in (rows_get hr0) ?_
  rw [rows_set, set_same hr0]
  refine Tr.front (x := ownS 23 1 o.Am _ _ _) (by repeat (first | exact Del.here | apply Del.there)) ?_
  refine Tr.front (x := box o.sb 56 _) (by repeat (first | exact Del.here | apply Del.there)) ?_
  repeat (((with_reducible refine Tr.step rfl ?_); (((with_reducible refine Knd.buildSlice ?_); ((refine Exec.buildSlice (tysOk.get rfl) rfl (tysOk.get rfl) rfl rfl rfl rfl rfl (by repeat (first | exact BuildP.nil | ((apply BuildP.one); (rfl); (rfl); (first | rfl | assumption); (repeat (first | exact SetL.z | apply SetL.s))))) rfl (fun b => ?_)))))))
  refine Tr.cells (cs' := [.slice B (row.take need.length).length k]) (by repeat (first | exact Upd.here | apply Upd.there)) rfl ?_
  ((refine Tr.step rfl ?_))
  refine Exec.append (A := A6) (news := [.slice B (row.take need.length).length k]) rfl rfl (tysOk.get rfl) rfl (tysOk.get rfl) rfl rfl rfl rfl (by repeat (first | exact Del.here | apply Del.there)) (Src.box (by repeat (first | exact Has.here | apply Has.there))) rfl (by intro u hu; simp at hu; subst hu; rfl) (by omega) (by omega) rfl (fun A7 c7 hc7 => ?_)
  have hel2 : Elems 1 RRowI M2 (cells ++ [.slice B (row.take need.length).length k]) (allocOf (amt rws) need.length (i + 1)) := by
    rw [allocOf_succ, ← htk]
    exact (hel.mono RRowI.mono hm2).append (Elems.one rfl ⟨B, k, rfl, hI⟩)
  repeat (first | ((with_reducible refine Tr.step rfl ?_); (first | ((with_reducible refine Knd.move ?_); (refine Exec.stab rfl (Stab.move rfl) rfl ?_)) | ((with_reducible refine Knd.assign ?_); (refine Exec.stab rfl (Stab.assign rfl) rfl ?_)) | ((with_reducible refine Knd.binOp ?_); ((refine Exec.stab rfl (Stab.addi rfl rfl (by omega)) rfl ?_))))) | (with_reducible refine Tr.next ?_) | (with_reducible refine Tr.region ?_) | (with_reducible refine Tr.nil ?_) | (with_reducible refine Tr.in_normal ?_))
  refine Tr.give (r := box _ 23 [_]) (by repeat (first | exact Del.here | apply Del.there)) ?_

  refine Tr.again (i + 1, rws, tk, gv, M2, A7, c7, cells ++ [.slice B (row.take need.length).length k]) ⟨by simp only; omega, hsh, ltk, lgv, hfl, hlex.row (Nat.le_refl _), hM.trans hm2, hc7, hel2⟩ (by simp only; omega) (holds_sub (by repeat (first | exact SubFr.nil | refine SubFr.cons rfl ?_)) (by repeat (first | exact DropL.refl | apply DropL.skip)))
end Go.Proofs.Ytmioocddmlfboaa
/-
  Matching, plain: the chapter's examples.
  Conditions: none.
-/
namespace Go.Proofs.Ytmioocddmlfboaa
open Go Bf
theorem possD (fits : List (List Bool)) (sup need : List Int) (set : Nat) : Poss fits sup need set ↔ ∀ s, s ≤ set → (1 ≤ s → s &&& set = s → lackB fits sup need s ≤ 0) := ⟨fun h s h1 h2 h3 => h s h2 h1 h3, fun h s h1 h2 h3 => h s h2 h1 h3⟩
theorem x2_no : ¬ Feas (pbOf [] [] [1]) := by
  rw [feas_poss (vld_iff.1 (by decide)), possD]
  decide
theorem x2_cut : memF (cutFin [] [] [1]) 1 = [0] := by
  have h := memF_bits (fits := []) (sup := []) (need := [1]) (vld_iff.1 (by decide))
  have e : cutOfP [] [] [1] = 1 := by
    unfold cutOfP
    show cutS _ 1 1 = 1
    rw [cutS, if_pos ((possD _ _ _ _).2 (by decide)), cutS]
  rw [e] at h
  exact h
theorem x3_no : ¬ Feas (pbOf [[true, true]] [3] [2, 2]) := by
  rw [feas_poss (vld_iff.1 (by decide)), possD]
  decide
theorem x3_cut : memF (cutFin [[true, true]] [3] [2, 2]) 2 = [0, 1] := by
  have h := memF_bits (fits := [[true, true]]) (sup := [3]) (need := [2, 2]) (vld_iff.1 (by decide))
  have e : cutOfP [[true, true]] [3] [2, 2] = 3 := by
    unfold cutOfP
    show cutS _ 2 3 = 3
    rw [cutS, if_pos ((possD _ _ _ _).2 (by decide)), cutS, if_pos ((possD _ _ _ _).2 (by decide)), cutS]
  rw [e] at h
  exact h
theorem x6_no : ¬ Feas (pbOf [[true, false, true], [false, true, true]] [1, 5] [2, 3, 3]) := by
  rw [feas_poss (vld_iff.1 (by decide)), possD]
  decide
theorem x6_cut : memF (cutFin [[true, false, true], [false, true, true]] [1, 5] [2, 3, 3]) 3 = [0] := by
  have h := memF_bits (fits := [[true, false, true], [false, true, true]]) (sup := [1, 5]) (need := [2, 3, 3]) (vld_iff.1 (by decide))
  have e : cutOfP [[true, false, true], [false, true, true]] [1, 5] [2, 3, 3] = 1 := by
    unfold cutOfP
    show cutS _ 3 7 = 1
    rw [cutS, if_neg (fun h => absurd ((possD _ _ _ _).1 h) (by decide)), cutS, if_neg (fun h => absurd ((possD _ _ _ _).1 h) (by decide)), cutS, if_pos ((possD _ _ _ _).2 (by decide)), cutS]
  rw [e] at h
  exact h
theorem x1_yes : Feas (pbOf [] [] []) := by
  rw [feas_poss (vld_iff.1 (by decide)), possD]
  decide
theorem x4_yes : Feas (pbOf [[true], [true]] [2, 2] [3]) := by
  rw [feas_poss (vld_iff.1 (by decide)), possD]
  decide
theorem x5_yes : Feas (pbOf [[true, true], [true, false]] [3, 3] [2, 2]) := by
  rw [feas_poss (vld_iff.1 (by decide)), possD]
  decide
def tbl (l : List (List Int)) (k b : Nat) : Int := (l.getD k []).getD b 0
theorem x4_flow : Bf.Flow (pbOf [[true], [true]] [2, 2] [3]) (tbl [[2, 0], [1, 1]]) fun _ => 0 :=
  ⟨⟨by decide, by decide, by decide⟩, by decide, by decide⟩
theorem x4_max {a : Nat → Nat → Int} (h : LexMax (pbOf [[true], [true]] [2, 2] [3]) a) : allocOf a 1 2 = [[2], [1]] := by
  have h1 := h.2 _ x4_flow 0 (by decide) 0 (by decide) (fun k hk => by omega) (fun b hb => by omega)
  have h2 : (sumN 2 (a 0)) = 2 := h.1.row 0 (by decide)
  have h3 : (0 : Int) + sumN 2 (fun k => a k 0) = 3 := h.1.col 0 (by decide)
  have h4 := h.1.nn 0 (by decide) 1 (by decide)
  simp only [sumN] at h2 h3
  have h5 : (2 : Int) ≤ a 0 0 := h1
  have e1 : a 0 0 = 2 := by omega
  have e2 : a 1 0 = 1 := by omega
  simp [allocOf, rowOf, List.range_succ, e1, e2]
theorem x5_flow : Bf.Flow (pbOf [[true, true], [true, false]] [3, 3] [2, 2]) (tbl [[1, 2, 0], [1, 0, 2]]) fun _ => 0 :=
  ⟨⟨by decide, by decide, by decide⟩, by decide, by decide⟩
theorem x5_max {a : Nat → Nat → Int} (h : LexMax (pbOf [[true, true], [true, false]] [3, 3] [2, 2]) a) : allocOf a 2 2 = [[1, 2], [1, 0]] := by
  have h1 := h.2 _ x5_flow 0 (by decide) 0 (by decide) (fun k hk => by omega) (fun b hb => by omega)
  have h2 : (sumN 3 (a 0)) = 3 := h.1.row 0 (by decide)
  have h3 : (0 : Int) + sumN 2 (fun k => a k 0) = 2 := h.1.col 0 (by decide)
  have h6 : (0 : Int) + sumN 2 (fun k => a k 1) = 2 := h.1.col 1 (by decide)
  have h4 := h.1.nn 0 (by decide) 2 (by decide)
  have h7 : a 1 1 = 0 := by
    by_cases e : a 1 1 = 0
    · exact e
    · exact absurd (h.1.ok 1 (by decide) 1 (by decide) e) (by decide)
  simp only [sumN] at h2 h3 h6
  have h5 : (1 : Int) ≤ a 0 0 := h1
  have e1 : a 0 0 = 1 := by omega
  have e2 : a 0 1 = 2 := by omega
  have e3 : a 1 0 = 1 := by omega
  simp [allocOf, rowOf, List.range_succ, e1, e2, e3, h7]
theorem x7_lack : IsLack (pbOf [[true]] [3] [5]) 2 := by
  have hv : Vld [[true]] [3] [5] := vld_iff.1 (by decide)
  refine ⟨⟨fun _ => true, by decide⟩, fun D => ?_⟩
  rw [lackOf_bits hv]
  have h := bitsOf_lt D 1
  have : bitsOf D 1 = 0 ∨ bitsOf D 1 = 1 := by omega
  show lackB [[true]] [3] [5] (bitsOf D 1) ≤ 2
  rcases this with e | e
  · rw [e]; decide
  · rw [e]; decide
theorem x8_check : CheckP [[true, true]] [3] [2, 1] [[2, 1]] := by
  have h2 : ∀ j, j < ([2, 1] : List Int).length → j = 0 ∨ j = 1 := fun j hj => by
    have : j < 2 := hj
    omega
  have h1 : ∀ i, i < ([3] : List Int).length → i = 0 := fun i hi => by
    have : i < 1 := hi
    omega
  refine ⟨rfl, by decide, fun i j hi hj => ?_, fun i j hi hj => ?_, fun i hi => ?_, fun j hj => ?_⟩
  · rw [h1 i hi]; rcases h2 j hj with rfl | rfl <;> decide
  · rw [h1 i hi]; rcases h2 j hj with rfl | rfl <;> decide
  · rw [h1 i hi]; decide
  · rcases h2 j hj with rfl | rfl <;> decide
theorem x9_cut : CutP [[true, true]] [3] [2, 2] [0, 1] := by
  refine ⟨fun q x hq hx => ?_, by decide⟩
  have : q = 0 ∨ q = 1 := by have : q < 2 := hq; omega
  rcases this with rfl | rfl
  · cases hx; exact ⟨by decide, by decide, fun _ h => by omega⟩
  · cases hx; exact ⟨by decide, by decide, fun y _ hy => by cases hy; decide⟩
theorem x10_cut : ¬ CutP [[true, true]] [3] [2, 2] [] := fun h => absurd h.2 (by decide)
end Go.Proofs.Ytmioocddmlfboaa
/-
  Matching: the contract of the program's Check.
  Conditions: none.
-/
namespace Go.Proofs.Ytmioocddmlfboaa
open Go Bf
attribute [local irreducible] Tr Exec Stab HasTy Go.Addr.add IntKind.wrap
set_option maxHeartbeats 8000000 in
set_option maxRecDepth 20000 in
theorem check_fn (M : Mem) (A0 A1 A2 A3 : Option Addr) (c0 c1 c2 c3 : Nat) (fits : List (List Bool)) (sup need : List Int) (am : List (List Int)) (hf : Fits2 M (.slice A0 fits.length c0) fits) (hs : Ints M (.slice A1 sup.length c1) sup) (hn : Ints M (.slice A2 need.length c2) need) (ha : Ints2 M (.slice A3 am.length c3) am) (rs : I64s sup) (rn : I64s need) :
    Fn0 Try.prog 11 [.slice A0 fits.length c0, .slice A1 sup.length c1, .slice A2 need.length c2, .slice A3 am.length c3] M (fun r M' => CheckR fits sup need am r ∧ M = M') := by
  have la := ha.len_le
  refine Fn.intro Try.func11 rfl rfl Try.ntmps11 rfl fun E F => ?_
  repeat (first | ((with_reducible refine Tr.step rfl ?_); (first | ((with_reducible refine Knd.move ?_); (refine Exec.stab rfl (Stab.move rfl) rfl ?_)) | ((with_reducible refine Knd.assign ?_); (refine Exec.stab rfl (Stab.assign rfl) rfl ?_)))) | (with_reducible refine Tr.next ?_) | (with_reducible refine Tr.seq ?_) | (with_reducible refine Tr.region ?_) | (with_reducible refine Tr.nil ?_))
  ((refine Tr.step rfl ?_)); refine Exec.call0 rfl (valid_fn M A0 A1 A2 c0 c1 c2 fits sup need hf hs hn rs rn) rfl ?_
  rintro _ _ _ ⟨rfl, rfl⟩
  cases hvv : validF fits sup need
  · repeat (first | ((with_reducible refine Tr.step rfl ?_); (first | ((with_reducible refine Knd.assign ?_); (refine Exec.stab rfl (Stab.assign rfl) rfl ?_)) | ((with_reducible refine Knd.unOp ?_); ((refine Exec.stab rfl (Stab.not rfl) rfl ?_))))) | (with_reducible refine Tr.next ?_) | (with_reducible refine Tr.seq ?_) | (with_reducible refine Tr.region ?_) | (with_reducible refine Tr.nil ?_) | (with_reducible refine Tr.ret ?_) | (with_reducible refine Tr.then_ret ?_) | (refine Tr.cond_bt rfl (by first | (with_reducible rfl) | (with_reducible assumption) | (with_reducible exact Bool.not_true) | (with_reducible exact Bool.not_false)) ?_))
    (refine Tr.done (by first | exact .inl rfl | exact .inr rfl) rfl (by repeat (first | exact RVs.nil | (apply RVs.cons; (exact RV.tmp rfl)))) (by first | exact Mem.le.refl _ | assumption) (by exact ⟨[], rfl⟩) ⟨rfl, ?_⟩)
    exact ⟨.inl ⟨hvv, rfl⟩, rfl⟩
  have hv := vld_iff.1 hvv
  have l1 := hv.ls
  have l2 := hv.ln
  have l3 := hv.lf
  by_cases hl : am.length = sup.length
  rotate_left
  · repeat (first | ((with_reducible refine Tr.step rfl ?_); (first | ((with_reducible refine Knd.move ?_); (refine Exec.stab rfl (Stab.move rfl) rfl ?_)) | ((with_reducible refine Knd.assign ?_); (refine Exec.stab rfl (Stab.assign rfl) rfl ?_)) | ((with_reducible refine Knd.len ?_); ((refine Exec.stab rfl (Stab.len rfl (tysOk.get rfl) rfl) rfl ?_))) | ((with_reducible refine Knd.binOp ?_); ((refine Exec.stab rfl (Stab.int rfl rfl rfl) rfl ?_))) | ((with_reducible refine Knd.unOp ?_); ((refine Exec.stab rfl (Stab.not rfl) rfl ?_))))) | (with_reducible refine Tr.next ?_) | (with_reducible refine Tr.seq ?_) | (with_reducible refine Tr.region ?_) | (with_reducible refine Tr.nil ?_) | (with_reducible refine Tr.skip ?_) | (with_reducible refine Tr.ret ?_) | (with_reducible refine Tr.then_ret ?_) | (refine Tr.cond_bf rfl (by first | (with_reducible rfl) | (with_reducible assumption) | (with_reducible exact Bool.not_true) | (with_reducible exact Bool.not_false)) ?_) | (refine Tr.cond_t rfl (by first | (with_reducible assumption) | (with_reducible rfl) | (with_reducible exact (not_not_intro rfl)) | omega) ?_))
    (refine Tr.done (by first | exact .inl rfl | exact .inr rfl) rfl (by repeat (first | exact RVs.nil | (apply RVs.cons; (exact RV.tmp rfl)))) (by first | exact Mem.le.refl _ | assumption) (by exact ⟨[], rfl⟩) ⟨rfl, ?_⟩)
    exact ⟨CheckR.no hv fun h => hl h.len, rfl⟩
  repeat (first | ((with_reducible refine Tr.step rfl ?_); (first | ((with_reducible refine Knd.move ?_); (refine Exec.stab rfl (Stab.move rfl) rfl ?_)) | ((with_reducible refine Knd.assign ?_); (refine Exec.stab rfl (Stab.assign rfl) rfl ?_)) | ((with_reducible refine Knd.len ?_); ((refine Exec.stab rfl (Stab.len rfl (tysOk.get rfl) rfl) rfl ?_))) | ((with_reducible refine Knd.binOp ?_); ((refine Exec.stab rfl (Stab.int rfl rfl rfl) rfl ?_))) | ((with_reducible refine Knd.unOp ?_); ((refine Exec.stab rfl (Stab.not rfl) rfl ?_))) | ((with_reducible refine Knd.makeSlice ?_); (refine Exec.make rfl rfl (tysOk.get rfl) rfl (tysOk.get rfl) rfl rfl rfl (by omega) (by omega) (by first | omega | (simp; done) | (simp; omega)) (by omega) rfl (fun b => ?_))))) | (with_reducible refine Tr.next ?_) | (with_reducible refine Tr.seq ?_) | (with_reducible refine Tr.region ?_) | (with_reducible refine Tr.nil ?_) | (with_reducible refine Tr.skip ?_) | (with_reducible refine Tr.block ?_) | (refine Tr.cond_bf rfl (by first | (with_reducible rfl) | (with_reducible assumption) | (with_reducible exact Bool.not_true) | (with_reducible exact Bool.not_false)) ?_) | (refine Tr.cond_f rfl (by first | (with_reducible assumption) | (with_reducible rfl) | (with_reducible exact (not_not_intro rfl)) | omega) ?_))
  rw [show ((need.length : Int)).toNat = need.length by omega, show List.replicate need.length (Value.int .i64 0) = intV (List.replicate need.length 0) by simp [intV]]
  generalize b = cb
  refine Tr.loop (α := Nat × List Int) (fun y => ⟨90, [(30, .int .i64 (y.1 : Int)), (29, .int .i64 (am.length : Int)), (28, .slice A3 am.length c3), (10, .slice (some ⟨cb, 0, none⟩) need.length need.length), (0, .slice A0 fits.length c0), (1, .slice A1 sup.length c1), (2, .slice A2 need.length c2)], [], M, box cb 3 (intV y.2) :: ([] ++ F)⟩)
    (fun y => y.1 ≤ am.length ∧ Upto fits sup need am y.1 0 y.2) (fun y => am.length - y.1) (0, List.replicate need.length 0) ⟨Nat.zero_le _, Upto.start _ _ _ _⟩ (holds_sub (by repeat (first | exact SubFr.nil | refine SubFr.cons rfl ?_)) (by repeat (first | exact DropL.refl | apply DropL.skip))) (fun y hy => ?_)
  obtain ⟨i, col⟩ := y
  obtain ⟨hi, hu⟩ := hy
  simp only at hi hu
  dsimp only
  have hcl := hu.cl
  have hcv : (intV col).length = need.length := by simp [hcl]
  by_cases hin : i < am.length
  rotate_left
  · have ei : i = am.length := by omega
    subst ei
    have heq := Fn.lend (M := M) (rs := [box cb 3 (intV col)]) (P := Try.prog) (f := 25) (args := [.slice (some ⟨cb, 0, none⟩) need.length need.length, .slice A2 need.length c2]) (R := fun r => ∃ b : Bool, r = .bool b ∧ (b = true ↔ col = need)) (clone_ok _ _ _ _ _ _ (equal_fn M need need A2 A2 c2 c2 hn hn)) (fun M' hm hok => by
      have hb : (box cb 3 (intV col)).ok M' := hok _ (by simp)
      have hI := Ints.ofBox hb (by omega)
      have := equal_fn M' col need (some ⟨cb, 0, none⟩) A2 col.length c2 hI (hn.mono RI.mono hm)
      rw [hcl] at this
      exact this)
    rw [hl] at hu
    have hfin := hu.fin hl
    repeat (first | ((with_reducible refine Tr.step rfl ?_); (first | ((with_reducible refine Knd.move ?_); (refine Exec.stab rfl (Stab.move rfl) rfl ?_)) | ((with_reducible refine Knd.binOp ?_); ((refine Exec.stab rfl (Stab.int rfl rfl rfl) rfl ?_))))) | (with_reducible refine Tr.next ?_) | (with_reducible refine Tr.seq ?_) | (with_reducible refine Tr.region ?_) | (with_reducible refine Tr.nil ?_) | (with_reducible refine Tr.exit ?_) | (with_reducible refine Tr.then_exit ?_) | ((with_reducible refine Tr.in_exit ?_ ?_); (exact rfl)) | (refine Tr.cond_f rfl (by first | (with_reducible assumption) | (with_reducible rfl) | (with_reducible exact (not_not_intro rfl)) | omega) ?_))
    ((refine Tr.step rfl ?_))
    refine Exec.call (A := [box cb 3 (intV col)]) rfl heq (List.Perm.refl _) rfl ?_
    rintro _ _ _ _ ⟨rfl, rfl, b, rfl, hb⟩
    repeat (first | ((with_reducible refine Tr.step rfl ?_); (((with_reducible refine Knd.assign ?_); (refine Exec.stab rfl (Stab.assign rfl) rfl ?_)))) | (with_reducible refine Tr.next ?_) | (with_reducible refine Tr.nil ?_) | (with_reducible refine Tr.ret ?_))
    (refine Tr.done (by first | exact .inl rfl | exact .inr rfl) rfl (by repeat (first | exact RVs.nil | (apply RVs.cons; (exact RV.tmp rfl)))) (by first | exact Mem.le.refl _ | assumption) (by exact ⟨[_], rfl⟩) ⟨rfl, ?_⟩)
    exact ⟨.inr ⟨hv, b, rfl, hb.trans hfin⟩, rfl⟩
  obtain ⟨r, hr⟩ := get_of_lt hin
  obtain ⟨hA3, rch, rat, rB, rk, rfl, hrI⟩ := ha.elem hr
  have hrcap := hrI.cap
  by_cases hrl : r.length = need.length
  rotate_left
  · repeat (first | ((with_reducible refine Tr.step rfl ?_); (first | ((with_reducible refine Knd.move ?_); (refine Exec.stab rfl (Stab.move rfl) rfl ?_)) | ((with_reducible refine Knd.assign ?_); (refine Exec.stab rfl (Stab.assign rfl) rfl ?_)) | ((with_reducible refine Knd.load ?_); ((refine Exec.stab rfl (Stab.loadM rfl (tysOk.get rfl) rfl (by assumption)) rfl ?_))) | ((with_reducible refine Knd.len ?_); ((refine Exec.stab rfl (Stab.len rfl (tysOk.get rfl) rfl) rfl ?_))) | ((with_reducible refine Knd.binOp ?_); ((refine Exec.stab rfl (Stab.int rfl rfl rfl) rfl ?_))) | ((with_reducible refine Knd.indexAddr ?_); ((refine Exec.stab rfl (Stab.indexAddr rfl rfl (tysOk.get rfl) rfl (tysOk.get rfl) rfl (by omega) (by omega) (by first | rfl | assumption)) rfl ?_))))) | (with_reducible refine Tr.next ?_) | (with_reducible refine Tr.seq ?_) | (with_reducible refine Tr.region ?_) | (with_reducible refine Tr.nil ?_) | (with_reducible refine Tr.skip ?_) | (with_reducible refine Tr.block ?_) | (with_reducible refine Tr.ret ?_) | (with_reducible refine Tr.then_ret ?_) | (with_reducible refine Tr.in_ret ?_) | (refine Tr.cond_t rfl (by first | (with_reducible assumption) | (with_reducible rfl) | (with_reducible exact (not_not_intro rfl)) | omega) ?_))
    (refine Tr.done (by first | exact .inl rfl | exact .inr rfl) rfl (by repeat (first | exact RVs.nil | (apply RVs.cons; (exact RV.tmp rfl)))) (by first | exact Mem.le.refl _ | assumption) (by exact ⟨[_], rfl⟩) ⟨rfl, ?_⟩)
    exact ⟨CheckR.no hv fun h => hrl (h.rows r (List.mem_of_getElem? hr)), rfl⟩
  repeat (first | ((with_reducible refine Tr.step rfl ?_); (first | ((with_reducible refine Knd.move ?_); (refine Exec.stab rfl (Stab.move rfl) rfl ?_)) | ((with_reducible refine Knd.assign ?_); (refine Exec.stab rfl (Stab.assign rfl) rfl ?_)) | ((with_reducible refine Knd.load ?_); ((refine Exec.stab rfl (Stab.loadM rfl (tysOk.get rfl) rfl (by assumption)) rfl ?_))) | ((with_reducible refine Knd.len ?_); ((refine Exec.stab rfl (Stab.len rfl (tysOk.get rfl) rfl) rfl ?_))) | ((with_reducible refine Knd.binOp ?_); ((refine Exec.stab rfl (Stab.int rfl rfl rfl) rfl ?_))) | ((with_reducible refine Knd.indexAddr ?_); ((refine Exec.stab rfl (Stab.indexAddr rfl rfl (tysOk.get rfl) rfl (tysOk.get rfl) rfl (by omega) (by omega) (by first | rfl | assumption)) rfl ?_))))) | (with_reducible refine Tr.next ?_) | (with_reducible refine Tr.seq ?_) | (with_reducible refine Tr.region ?_) | (with_reducible refine Tr.nil ?_) | (with_reducible refine Tr.skip ?_) | (with_reducible refine Tr.block ?_) | (refine Tr.cond_t rfl (by first | (with_reducible assumption) | (with_reducible rfl) | (with_reducible exact (not_not_intro rfl)) | omega) ?_) | (refine Tr.cond_f rfl (by first | (with_reducible assumption) | (with_reducible rfl) | (with_reducible exact (not_not_intro rfl)) | omega) ?_))
  refine Tr.loop (α := Nat × List Int) (fun y => ⟨90, [(42, .int .i64 (y.1 : Int)), (41, .int .i64 (r.length : Int)), (40, .slice rB r.length rk), (12, .slice rB r.length rk), (11, .int .i64 (i : Int)), (30, .int .i64 (i : Int)), (29, .int .i64 (am.length : Int)), (28, .slice A3 am.length c3), (10, .slice (some ⟨cb, 0, none⟩) need.length need.length), (0, .slice A0 fits.length c0), (1, .slice A1 sup.length c1), (2, .slice A2 need.length c2)], [], M, box cb 3 (intV y.2) :: ([] ++ F)⟩)
    (fun y => y.1 ≤ need.length ∧ Upto fits sup need am i y.1 y.2) (fun y => need.length - y.1) (0, col) ⟨Nat.zero_le _, hu⟩ (holds_sub (by repeat (first | exact SubFr.nil | refine SubFr.cons rfl ?_)) (by repeat (first | exact DropL.refl | apply DropL.skip))) (fun y hy => ?_)
  clear hu hcl hcv
  obtain ⟨j, col⟩ := y
  obtain ⟨hj, hu⟩ := hy
  simp only at hj hu
  dsimp only
  have hcl := hu.cl
  have hcv : (intV col).length = need.length := by simp [hcl]
  have hisl : i < sup.length := by omega
  obtain ⟨s, hs1⟩ := get_of_lt hisl
  obtain ⟨hA1, sat⟩ := hs.at hs1
  have hsr := hv.rs s (List.mem_of_getElem? hs1)
  have hsd : sup.getD i 0 = s := getD_of hs1
  by_cases hjn : j < need.length
  rotate_left
  · have ej : j = need.length := by omega
    subst ej
    have hrow : r.sum = sumN need.length (am2 am i) := by rw [am2_row hr, sumN_list, hrl]
    have hall : ∀ x ∈ r, 0 ≤ x ∧ x ≤ 1048576 := fun x hx => by
      obtain ⟨q, hq⟩ := List.mem_iff_getElem?.1 hx
      have hq1 := (List.getElem?_eq_some_iff.1 hq).1
      have := hu.ok i q hisl (by omega) (.inr ⟨rfl, by omega⟩)
      rw [am2_of hr hq] at this
      exact ⟨this.1, this.2.1⟩
    have hsum := sum_fn M [] rB rk r hrcap.2.1 (fun h => by
      cases rB with
      | none => exact absurd (List.eq_nil_of_length_eq_zero (hrcap.2.2.2 rfl)) h
      | some a => rfl) (Src.row hrI.row) (small_of (by omega) hall)
    have hsr2 := sum_rng (l := r) (by omega) hall
    repeat (first | ((with_reducible refine Tr.step rfl ?_); (((with_reducible refine Knd.binOp ?_); ((refine Exec.stab rfl (Stab.int rfl rfl rfl) rfl ?_))))) | (with_reducible refine Tr.next ?_) | (with_reducible refine Tr.seq ?_) | (with_reducible refine Tr.region ?_) | (with_reducible refine Tr.nil ?_) | (with_reducible refine Tr.exit ?_) | (with_reducible refine Tr.then_exit ?_) | ((with_reducible refine Tr.in_exit ?_ ?_); (exact rfl)) | (refine Tr.cond_f rfl (by first | (with_reducible assumption) | (with_reducible rfl) | (with_reducible exact (not_not_intro rfl)) | omega) ?_))
    (((apply Tr.draw); (kernel_rfl)); (refine TrA.take 0 (by kernel_rfl) rfl (by kernel_rfl) (by first | exact fun _ _ _ h => h | exact fun _ _ _ h => nomatch h.1) (by exact fun _ h => h) rfl (by first | exact Stab.move rfl) rfl rfl ?_); (refine TrA.take 2 (by kernel_rfl) rfl (by kernel_rfl) (by first | exact fun _ _ _ h => h | exact fun _ _ _ h => nomatch h.1) (by exact fun _ h => h) rfl (by first | exact Stab.move rfl) rfl rfl ?_); (refine TrA.take 3 (by kernel_rfl) rfl (by kernel_rfl) (by first | exact fun _ _ _ h => h | exact fun _ _ _ h => nomatch h.1) (by exact fun _ h => h) rfl (by first | exact Stab.move rfl) rfl rfl ?_); (refine TrA.take 4 (by kernel_rfl) rfl (by kernel_rfl) (by first | exact fun _ _ _ h => h | exact fun _ _ _ h => nomatch h.1) (by exact fun _ h => h) rfl (by exact Stab.indexAddr rfl rfl (tysOk.get rfl) rfl (tysOk.get rfl) rfl (by omega) (by omega) (by first | rfl | assumption)) rfl rfl ?_); (refine TrA.take 5 (by kernel_rfl) rfl (by kernel_rfl) (by first | exact fun _ _ _ h => h | exact fun _ _ _ h => nomatch h.1) (by exact fun _ h => h) rfl (by exact Stab.loadM rfl (tysOk.get rfl) rfl (by assumption)) rfl rfl ?_); (refine TrA.eff 1 rfl (by kernel_rfl) (by first | exact .inl rfl | exact .inr ⟨_, _, _, rfl, rfl, rfl⟩) ?_))
    refine Exec.call (A := []) rfl hsum (List.Perm.refl _) rfl ?_
    rintro _ _ _ _ ⟨rfl, rfl, rfl⟩
    refine ⟨Mem.le.refl _, (by exact fun _ h => h), ?_⟩
    ((refine TrA.take 6 (by kernel_rfl) rfl (by kernel_rfl) (by first | exact fun _ _ _ h => h | exact fun _ _ _ h => nomatch h.1) (by exact fun _ h => h) rfl (by exact Stab.int rfl rfl rfl) rfl rfl ?_); (refine TrA.done (by kernel_rfl) ?_))
    by_cases hso : s < r.sum
    · repeat (first | ((with_reducible refine Tr.step rfl ?_); (((with_reducible refine Knd.assign ?_); (refine Exec.stab rfl (Stab.assign rfl) rfl ?_)))) | (with_reducible refine Tr.next ?_) | (with_reducible refine Tr.seq ?_) | (with_reducible refine Tr.region ?_) | (with_reducible refine Tr.nil ?_) | (with_reducible refine Tr.ret ?_) | (with_reducible refine Tr.then_ret ?_) | (with_reducible refine Tr.in_ret ?_) | (refine Tr.cond_t rfl (by first | (with_reducible assumption) | (with_reducible rfl) | (with_reducible exact (not_not_intro rfl)) | omega) ?_))
      (refine Tr.done (by first | exact .inl rfl | exact .inr rfl) rfl (by repeat (first | exact RVs.nil | (apply RVs.cons; (exact RV.tmp rfl)))) (by first | exact Mem.le.refl _ | assumption) (by exact ⟨[_], rfl⟩) ⟨rfl, ?_⟩)
      exact ⟨CheckR.no hv fun h => by have := h.row i hisl; omega, rfl⟩
    · repeat (first | ((with_reducible refine Tr.step rfl ?_); (first | ((with_reducible refine Knd.move ?_); (refine Exec.stab rfl (Stab.move rfl) rfl ?_)) | ((with_reducible refine Knd.binOp ?_); ((refine Exec.stab rfl (Stab.addi rfl rfl (by omega)) rfl ?_))))) | (with_reducible refine Tr.next ?_) | (with_reducible refine Tr.region ?_) | (with_reducible refine Tr.nil ?_) | (with_reducible refine Tr.skip ?_) | (with_reducible refine Tr.in_normal ?_) | (refine Tr.cond_f rfl (by first | (with_reducible assumption) | (with_reducible rfl) | (with_reducible exact (not_not_intro rfl)) | omega) ?_))
      refine Tr.again (i + 1, col) ⟨by simp only; omega, hu.row hr hrl (by omega)⟩ (by simp only; omega) (holds_sub (by repeat (first | exact SubFr.nil | refine SubFr.cons rfl ?_)) (by repeat (first | exact DropL.refl | apply DropL.skip)))
  obtain ⟨x, hx⟩ := get_of_lt (xs := r) (i := j) (by omega)
  obtain ⟨hrB, xat⟩ := hrI.at hx
  have hxa := am2_of hr hx
  obtain ⟨frow, hfr⟩ := get_of_lt (xs := fits) (i := i) (by omega)
  have hfrl := hv.rows frow (List.mem_of_getElem? hfr)
  obtain ⟨hA0, fch, fat, fB, fk, rfl, hfB⟩ := hf.elem hfr
  obtain ⟨fx, hfx⟩ := get_of_lt (xs := frow) (i := j) (by omega)
  obtain ⟨hfA, fxat⟩ := hfB.at hfx
  have hfd : (fits.getD i []).getD j false = fx := by rw [getD_of (d := []) hfr, getD_of (d := false) hfx]
  obtain ⟨cv, hcv1⟩ := get_of_lt (xs := col) (i := j) (by omega)
  have hcv2 : nthL (intV col) j = some (.int .i64 cv) := by rw [nthL_eq]; exact intV_get hcv1
  have hcr := hu.col_rng (by omega) (by omega) hjn (Nat.le_refl _)
  rw [getD_of hcv1] at hcr
  by_cases hx0 : x < 0
  · repeat (first | ((with_reducible refine Tr.step rfl ?_); (first | ((with_reducible refine Knd.move ?_); (refine Exec.stab rfl (Stab.move rfl) rfl ?_)) | ((with_reducible refine Knd.assign ?_); (refine Exec.stab rfl (Stab.assign rfl) rfl ?_)) | ((with_reducible refine Knd.load ?_); ((refine Exec.stab rfl (Stab.loadM rfl (tysOk.get rfl) rfl (by assumption)) rfl ?_))) | ((with_reducible refine Knd.binOp ?_); ((refine Exec.stab rfl (Stab.int rfl rfl rfl) rfl ?_))) | ((with_reducible refine Knd.pick ?_); (first | (refine Exec.stab rfl (Stab.pick_t rfl (by first | (with_reducible rfl) | (with_reducible assumption) | (with_reducible exact Bool.not_true) | (with_reducible exact Bool.not_false)) rfl) rfl ?_) | (refine Exec.stab rfl (Stab.pick_td rfl (by first | (with_reducible assumption) | (with_reducible rfl) | (with_reducible exact (not_not_intro rfl)) | omega) rfl) rfl ?_))) | ((with_reducible refine Knd.indexAddr ?_); ((refine Exec.stab rfl (Stab.indexAddr rfl rfl (tysOk.get rfl) rfl (tysOk.get rfl) rfl (by omega) (by omega) (by first | rfl | assumption)) rfl ?_))))) | (with_reducible refine Tr.next ?_) | (with_reducible refine Tr.seq ?_) | (with_reducible refine Tr.region ?_) | (with_reducible refine Tr.nil ?_) | (refine Tr.guard_s0 rfl rfl rfl (by first | (with_reducible rfl) | (with_reducible assumption) | (with_reducible exact Bool.not_true) | (with_reducible exact Bool.not_false)) rfl rfl ?_) | (refine Tr.guard_n' rfl rfl rfl (by first | (with_reducible assumption) | (with_reducible rfl) | (with_reducible exact (not_not_intro rfl)) | omega) rfl rfl ?_) | (refine Tr.guard_u rfl rfl rfl rfl rfl ?_) | (with_reducible refine Tr.skip ?_) | (with_reducible refine Tr.block ?_) | (with_reducible refine Tr.ret ?_) | (with_reducible refine Tr.then_ret ?_) | (with_reducible refine Tr.in_ret ?_) | (refine Tr.cond_bt rfl (by first | (with_reducible rfl) | (with_reducible assumption) | (with_reducible exact Bool.not_true) | (with_reducible exact Bool.not_false)) ?_) | (refine Tr.cond_t rfl (by first | (with_reducible assumption) | (with_reducible rfl) | (with_reducible exact (not_not_intro rfl)) | omega) ?_))
    (refine Tr.done (by first | exact .inl rfl | exact .inr rfl) rfl (by repeat (first | exact RVs.nil | (apply RVs.cons; (exact RV.tmp rfl)))) (by first | exact Mem.le.refl _ | assumption) (by exact ⟨[_], rfl⟩) ⟨rfl, ?_⟩)
    exact ⟨CheckR.no hv (CheckP.bad hisl hjn (.inl (by omega))), rfl⟩
  by_cases hxs : s < x
  · repeat (first | ((with_reducible refine Tr.step rfl ?_); (first | ((with_reducible refine Knd.move ?_); (refine Exec.stab rfl (Stab.move rfl) rfl ?_)) | ((with_reducible refine Knd.assign ?_); (refine Exec.stab rfl (Stab.assign rfl) rfl ?_)) | ((with_reducible refine Knd.load ?_); ((refine Exec.stab rfl (Stab.loadM rfl (tysOk.get rfl) rfl (by assumption)) rfl ?_))) | ((with_reducible refine Knd.binOp ?_); ((refine Exec.stab rfl (Stab.int rfl rfl rfl) rfl ?_))) | ((with_reducible refine Knd.pick ?_); (first | (refine Exec.stab rfl (Stab.pick_td rfl (by first | (with_reducible assumption) | (with_reducible rfl) | (with_reducible exact (not_not_intro rfl)) | omega) rfl) rfl ?_) | (refine Exec.stab rfl (Stab.pick_fd rfl (by first | (with_reducible assumption) | (with_reducible rfl) | (with_reducible exact (not_not_intro rfl)) | omega) rfl) rfl ?_))) | ((with_reducible refine Knd.indexAddr ?_); ((refine Exec.stab rfl (Stab.indexAddr rfl rfl (tysOk.get rfl) rfl (tysOk.get rfl) rfl (by omega) (by omega) (by first | rfl | assumption)) rfl ?_))))) | (with_reducible refine Tr.next ?_) | (with_reducible refine Tr.seq ?_) | (with_reducible refine Tr.region ?_) | (with_reducible refine Tr.nil ?_) | ((refine Tr.guard_y' rfl rfl rfl (by first | (with_reducible assumption) | (with_reducible rfl) | (with_reducible exact (not_not_intro rfl)) | omega) ?_); (first | ((with_reducible refine Knd.move ?_); (refine Exec.stab rfl (Stab.move rfl) rfl ?_)) | ((with_reducible refine Knd.load ?_); ((refine Exec.stab rfl (Stab.loadM rfl (tysOk.get rfl) rfl (by assumption)) rfl ?_))) | ((with_reducible refine Knd.binOp ?_); ((refine Exec.stab rfl (Stab.int rfl rfl rfl) rfl ?_))) | ((with_reducible refine Knd.indexAddr ?_); ((refine Exec.stab rfl (Stab.indexAddr rfl rfl (tysOk.get rfl) rfl (tysOk.get rfl) rfl (by omega) (by omega) (by first | rfl | assumption)) rfl ?_))))) | (refine Tr.guard_n' rfl rfl rfl (by first | (with_reducible assumption) | (with_reducible rfl) | (with_reducible exact (not_not_intro rfl)) | omega) rfl rfl ?_) | (refine Tr.guard_u rfl rfl rfl rfl rfl ?_) | (with_reducible refine Tr.skip ?_) | (with_reducible refine Tr.block ?_) | (with_reducible refine Tr.ret ?_) | (with_reducible refine Tr.then_ret ?_) | (with_reducible refine Tr.in_ret ?_) | (refine Tr.cond_bt rfl (by first | (with_reducible rfl) | (with_reducible assumption) | (with_reducible exact Bool.not_true) | (with_reducible exact Bool.not_false)) ?_) | (refine Tr.cond_t rfl (by first | (with_reducible assumption) | (with_reducible rfl) | (with_reducible exact (not_not_intro rfl)) | omega) ?_))
    (refine Tr.done (by first | exact .inl rfl | exact .inr rfl) rfl (by repeat (first | exact RVs.nil | (apply RVs.cons; (exact RV.tmp rfl)))) (by first | exact Mem.le.refl _ | assumption) (by exact ⟨[_], rfl⟩) ⟨rfl, ?_⟩)
    exact ⟨CheckR.no hv (CheckP.bad hisl hjn (.inr (.inl (by omega)))), rfl⟩
  have hst := hu.step (j := j) hjn (by rw [hxa]; omega)
  rw [getD_of hcv1, hxa] at hst
  by_cases hxp : 0 < x
  · cases fx
    · repeat (first | ((with_reducible refine Tr.step rfl ?_); (first | ((with_reducible refine Knd.move ?_); (refine Exec.stab rfl (Stab.move rfl) rfl ?_)) | ((with_reducible refine Knd.assign ?_); (refine Exec.stab rfl (Stab.assign rfl) rfl ?_)) | ((with_reducible refine Knd.load ?_); ((refine Exec.stab rfl (Stab.loadM rfl (tysOk.get rfl) rfl (by assumption)) rfl ?_))) | ((with_reducible refine Knd.binOp ?_); ((refine Exec.stab rfl (Stab.int rfl rfl rfl) rfl ?_))) | ((with_reducible refine Knd.pick ?_); ((refine Exec.stab rfl (Stab.pick_fd rfl (by first | (with_reducible assumption) | (with_reducible rfl) | (with_reducible exact (not_not_intro rfl)) | omega) rfl) rfl ?_))) | ((with_reducible refine Knd.indexAddr ?_); ((refine Exec.stab rfl (Stab.indexAddr rfl rfl (tysOk.get rfl) rfl (tysOk.get rfl) rfl (by omega) (by omega) (by first | rfl | assumption)) rfl ?_))))) | (with_reducible refine Tr.next ?_) | (with_reducible refine Tr.seq ?_) | (with_reducible refine Tr.region ?_) | (with_reducible refine Tr.nil ?_) | ((refine Tr.guard_y rfl rfl rfl (by first | (with_reducible assumption) | (with_reducible rfl) | (with_reducible exact (not_not_intro rfl)) | omega) ?_); (first | ((with_reducible refine Knd.move ?_); (refine Exec.stab rfl (Stab.move rfl) rfl ?_)) | ((with_reducible refine Knd.load ?_); ((refine Exec.stab rfl (Stab.loadM rfl (tysOk.get rfl) rfl (by assumption)) rfl ?_))) | ((with_reducible refine Knd.unOp ?_); ((refine Exec.stab rfl (Stab.not rfl) rfl ?_))) | ((with_reducible refine Knd.indexAddr ?_); ((refine Exec.stab rfl (Stab.indexAddr rfl rfl (tysOk.get rfl) rfl (tysOk.get rfl) rfl (by omega) (by omega) (by first | rfl | assumption)) rfl ?_))))) | ((refine Tr.guard_y' rfl rfl rfl (by first | (with_reducible assumption) | (with_reducible rfl) | (with_reducible exact (not_not_intro rfl)) | omega) ?_); (first | ((with_reducible refine Knd.move ?_); (refine Exec.stab rfl (Stab.move rfl) rfl ?_)) | ((with_reducible refine Knd.load ?_); ((refine Exec.stab rfl (Stab.loadM rfl (tysOk.get rfl) rfl (by assumption)) rfl ?_))) | ((with_reducible refine Knd.binOp ?_); ((refine Exec.stab rfl (Stab.int rfl rfl rfl) rfl ?_))) | ((with_reducible refine Knd.pick ?_); ((refine Exec.stab rfl (Stab.pick_td rfl (by first | (with_reducible assumption) | (with_reducible rfl) | (with_reducible exact (not_not_intro rfl)) | omega) rfl) rfl ?_))) | ((with_reducible refine Knd.indexAddr ?_); ((refine Exec.stab rfl (Stab.indexAddr rfl rfl (tysOk.get rfl) rfl (tysOk.get rfl) rfl (by omega) (by omega) (by first | rfl | assumption)) rfl ?_))))) | (with_reducible refine Tr.skip ?_) | (with_reducible refine Tr.block ?_) | (with_reducible refine Tr.ret ?_) | (with_reducible refine Tr.then_ret ?_) | (with_reducible refine Tr.in_ret ?_) | (refine Tr.cond_bt rfl (by first | (with_reducible rfl) | (with_reducible assumption) | (with_reducible exact Bool.not_true) | (with_reducible exact Bool.not_false)) ?_) | (refine Tr.cond_t rfl (by first | (with_reducible assumption) | (with_reducible rfl) | (with_reducible exact (not_not_intro rfl)) | omega) ?_))
      (refine Tr.done (by first | exact .inl rfl | exact .inr rfl) rfl (by repeat (first | exact RVs.nil | (apply RVs.cons; (exact RV.tmp rfl)))) (by first | exact Mem.le.refl _ | assumption) (by exact ⟨[_], rfl⟩) ⟨rfl, ?_⟩)
      exact ⟨CheckR.no hv (CheckP.bad hisl hjn (.inr (.inr ⟨by omega, hfd⟩))), rfl⟩
    · repeat (first | ((with_reducible refine Tr.step rfl ?_); (first | ((with_reducible refine Knd.move ?_); (refine Exec.stab rfl (Stab.move rfl) rfl ?_)) | ((with_reducible refine Knd.assign ?_); (refine Exec.stab rfl (Stab.assign rfl) rfl ?_)) | ((with_reducible refine Knd.load ?_); (first | (refine Exec.stab rfl (Stab.load rfl (tysOk.get rfl) rfl (by repeat (first | exact Has.here | apply Has.there)) (by assumption)) rfl ?_) | (refine Exec.stab rfl (Stab.loadM rfl (tysOk.get rfl) rfl (by assumption)) rfl ?_))) | ((with_reducible refine Knd.binOp ?_); (first | (refine Exec.stab rfl (Stab.addi rfl rfl (by omega)) rfl ?_) | (refine Exec.stab rfl (Stab.int rfl rfl rfl) rfl ?_))) | ((with_reducible refine Knd.pick ?_); ((refine Exec.stab rfl (Stab.pick_fd rfl (by first | (with_reducible assumption) | (with_reducible rfl) | (with_reducible exact (not_not_intro rfl)) | omega) rfl) rfl ?_))) | ((with_reducible refine Knd.store ?_); ((refine Exec.storeS rfl rfl (tysOk.get rfl) rfl (by first | rfl | assumption) (by repeat (first | exact Upd.here | apply Upd.there)) (by omega) ?_))) | ((with_reducible refine Knd.indexAddr ?_); (first | (refine Exec.stab rfl (Stab.indexB0 rfl rfl (tysOk.get rfl) rfl (tysOk.get rfl) rfl (by omega) (by omega)) rfl ?_) | (refine Exec.stab rfl (Stab.indexAddr rfl rfl (tysOk.get rfl) rfl (tysOk.get rfl) rfl (by omega) (by omega) (by first | rfl | assumption)) rfl ?_))))) | (with_reducible refine Tr.next ?_) | (with_reducible refine Tr.seq ?_) | (with_reducible refine Tr.region ?_) | (with_reducible refine Tr.nil ?_) | ((refine Tr.guard_y rfl rfl rfl (by first | (with_reducible assumption) | (with_reducible rfl) | (with_reducible exact (not_not_intro rfl)) | omega) ?_); (first | ((with_reducible refine Knd.move ?_); (refine Exec.stab rfl (Stab.move rfl) rfl ?_)) | ((with_reducible refine Knd.load ?_); ((refine Exec.stab rfl (Stab.loadM rfl (tysOk.get rfl) rfl (by assumption)) rfl ?_))) | ((with_reducible refine Knd.unOp ?_); ((refine Exec.stab rfl (Stab.not rfl) rfl ?_))) | ((with_reducible refine Knd.indexAddr ?_); ((refine Exec.stab rfl (Stab.indexAddr rfl rfl (tysOk.get rfl) rfl (tysOk.get rfl) rfl (by omega) (by omega) (by first | rfl | assumption)) rfl ?_))))) | ((refine Tr.guard_y' rfl rfl rfl (by first | (with_reducible assumption) | (with_reducible rfl) | (with_reducible exact (not_not_intro rfl)) | omega) ?_); (first | ((with_reducible refine Knd.move ?_); (refine Exec.stab rfl (Stab.move rfl) rfl ?_)) | ((with_reducible refine Knd.load ?_); ((refine Exec.stab rfl (Stab.loadM rfl (tysOk.get rfl) rfl (by assumption)) rfl ?_))) | ((with_reducible refine Knd.binOp ?_); ((refine Exec.stab rfl (Stab.int rfl rfl rfl) rfl ?_))) | ((with_reducible refine Knd.pick ?_); ((refine Exec.stab rfl (Stab.pick_td rfl (by first | (with_reducible assumption) | (with_reducible rfl) | (with_reducible exact (not_not_intro rfl)) | omega) rfl) rfl ?_))) | ((with_reducible refine Knd.indexAddr ?_); ((refine Exec.stab rfl (Stab.indexAddr rfl rfl (tysOk.get rfl) rfl (tysOk.get rfl) rfl (by omega) (by omega) (by first | rfl | assumption)) rfl ?_))))) | (with_reducible refine Tr.skip ?_) | (with_reducible refine Tr.block ?_) | (with_reducible refine Tr.in_normal ?_) | (refine Tr.cond_bf rfl (by first | (with_reducible rfl) | (with_reducible assumption) | (with_reducible exact Bool.not_true) | (with_reducible exact Bool.not_false)) ?_) | (refine Tr.cond_t rfl (by first | (with_reducible assumption) | (with_reducible rfl) | (with_reducible exact (not_not_intro rfl)) | omega) ?_))
      rw [intV_set]
      refine Tr.again (j + 1, col.set j (cv + x)) ⟨by simp only; omega, hst fun _ => hfd⟩ (by simp only; omega) (holds_sub (by repeat (first | exact SubFr.nil | refine SubFr.cons rfl ?_)) (by repeat (first | exact DropL.refl | apply DropL.skip)))
  · repeat (first | ((with_reducible refine Tr.step rfl ?_); (first | ((with_reducible refine Knd.move ?_); (refine Exec.stab rfl (Stab.move rfl) rfl ?_)) | ((with_reducible refine Knd.assign ?_); (refine Exec.stab rfl (Stab.assign rfl) rfl ?_)) | ((with_reducible refine Knd.load ?_); (first | (refine Exec.stab rfl (Stab.load rfl (tysOk.get rfl) rfl (by repeat (first | exact Has.here | apply Has.there)) (by assumption)) rfl ?_) | (refine Exec.stab rfl (Stab.loadM rfl (tysOk.get rfl) rfl (by assumption)) rfl ?_))) | ((with_reducible refine Knd.binOp ?_); (first | (refine Exec.stab rfl (Stab.addi rfl rfl (by omega)) rfl ?_) | (refine Exec.stab rfl (Stab.int rfl rfl rfl) rfl ?_))) | ((with_reducible refine Knd.pick ?_); ((refine Exec.stab rfl (Stab.pick_fd rfl (by first | (with_reducible assumption) | (with_reducible rfl) | (with_reducible exact (not_not_intro rfl)) | omega) rfl) rfl ?_))) | ((with_reducible refine Knd.store ?_); ((refine Exec.storeS rfl rfl (tysOk.get rfl) rfl (by first | rfl | assumption) (by repeat (first | exact Upd.here | apply Upd.there)) (by omega) ?_))) | ((with_reducible refine Knd.indexAddr ?_); (first | (refine Exec.stab rfl (Stab.indexB0 rfl rfl (tysOk.get rfl) rfl (tysOk.get rfl) rfl (by omega) (by omega)) rfl ?_) | (refine Exec.stab rfl (Stab.indexAddr rfl rfl (tysOk.get rfl) rfl (tysOk.get rfl) rfl (by omega) (by omega) (by first | rfl | assumption)) rfl ?_))))) | (with_reducible refine Tr.next ?_) | (with_reducible refine Tr.seq ?_) | (with_reducible refine Tr.region ?_) | (with_reducible refine Tr.nil ?_) | ((refine Tr.guard_y' rfl rfl rfl (by first | (with_reducible assumption) | (with_reducible rfl) | (with_reducible exact (not_not_intro rfl)) | omega) ?_); (first | ((with_reducible refine Knd.move ?_); (refine Exec.stab rfl (Stab.move rfl) rfl ?_)) | ((with_reducible refine Knd.load ?_); ((refine Exec.stab rfl (Stab.loadM rfl (tysOk.get rfl) rfl (by assumption)) rfl ?_))) | ((with_reducible refine Knd.binOp ?_); ((refine Exec.stab rfl (Stab.int rfl rfl rfl) rfl ?_))) | ((with_reducible refine Knd.pick ?_); ((refine Exec.stab rfl (Stab.pick_fd rfl (by first | (with_reducible assumption) | (with_reducible rfl) | (with_reducible exact (not_not_intro rfl)) | omega) rfl) rfl ?_))) | ((with_reducible refine Knd.indexAddr ?_); ((refine Exec.stab rfl (Stab.indexAddr rfl rfl (tysOk.get rfl) rfl (tysOk.get rfl) rfl (by omega) (by omega) (by first | rfl | assumption)) rfl ?_))))) | (refine Tr.guard_n rfl rfl rfl (by first | (with_reducible assumption) | (with_reducible rfl) | (with_reducible exact (not_not_intro rfl)) | omega) rfl rfl ?_) | (with_reducible refine Tr.skip ?_) | (with_reducible refine Tr.block ?_) | (with_reducible refine Tr.in_normal ?_) | (refine Tr.cond_bf rfl (by first | (with_reducible rfl) | (with_reducible assumption) | (with_reducible exact Bool.not_true) | (with_reducible exact Bool.not_false)) ?_) | (refine Tr.cond_t rfl (by first | (with_reducible assumption) | (with_reducible rfl) | (with_reducible exact (not_not_intro rfl)) | omega) ?_))
    rw [intV_set]
    refine Tr.again (j + 1, col.set j (cv + x)) ⟨by simp only; omega, hst fun h => by omega⟩ (by simp only; omega) (holds_sub (by repeat (first | exact SubFr.nil | refine SubFr.cons rfl ?_)) (by repeat (first | exact DropL.refl | apply DropL.skip)))
end Go.Proofs.Ytmioocddmlfboaa
/-
  Matching: the contract of sane.
  Conditions: none.
-/
namespace Go.Proofs.Ytmioocddmlfboaa
open Go Bf
attribute [local irreducible] Tr Exec Stab HasTy Go.Addr.add IntKind.wrap
theorem FlowR.yes {fits : List (List Bool)} {sup need : List Int} {r : Value} {M' : Mem} (h : FlowR fits sup need r M') (hv : validF fits sup need = true) (hf : Feas (pbOf fits sup need)) :
    ∃ a, LexMax (pbOf fits sup need) a ∧ ∃ A c, r = .tuple #[.slice A (allocOf a need.length sup.length).length c, .bool true, .slice none 0 0, .int .i64 0] ∧ Ints2 M' (.slice A (allocOf a need.length sup.length).length c) (allocOf a need.length sup.length) := by
  rcases h with ⟨h, -⟩ | ⟨-, h, -⟩ | ⟨-, h⟩
  · rw [hv] at h; cases h
  · exact absurd hf h
  · exact h
theorem FlowR.no {fits : List (List Bool)} {sup need : List Int} {r : Value} {M' : Mem} (h : FlowR fits sup need r M') (hv : validF fits sup need = true) (hf : ¬ Feas (pbOf fits sup need)) {l : List Int} (hl : memF (cutFin fits sup need) need.length = l) :
    ∃ B k, r = .tuple #[.slice none 0 0, .bool false, .slice B l.length k, .int .i64 0] ∧ Ints M' (.slice B l.length k) l := by
  subst hl
  rcases h with ⟨h, -⟩ | ⟨-, -, h⟩ | ⟨-, a, h, -⟩
  · rw [hv] at h; cases h
  · exact h
  · exact absurd ⟨a, h.1⟩ hf
theorem CheckR.yes {fits : List (List Bool)} {sup need : List Int} {am : List (List Int)} {r : Value} (h : CheckR fits sup need am r) (hv : validF fits sup need = true) (hc : CheckP fits sup need am) : r = .tuple #[.bool true, .int .i64 0] := by
  rcases h with ⟨h, -⟩ | ⟨-, b, rfl, hb⟩
  · rw [hv] at h; cases h
  · rw [hb.2 hc]
theorem CheckR.bad {fits : List (List Bool)} {sup need : List Int} {am : List (List Int)} {r : Value} (h : CheckR fits sup need am r) (hv : validF fits sup need = false) : r = .tuple #[.bool false, .int .i64 300] := by
  rcases h with ⟨-, rfl⟩ | ⟨h, -⟩
  · rfl
  · rw [vld_iff.2 h] at hv; cases hv
theorem CutR.yes {fits : List (List Bool)} {sup need l : List Int} {r : Value} (h : CutR fits sup need l r) (hv : validF fits sup need = true) (hc : CutP fits sup need l) : r = .tuple #[.bool true, .int .i64 0] := by
  rcases h with ⟨h, -⟩ | ⟨-, b, rfl, hb⟩
  · rw [hv] at h; cases h
  · rw [hb.2 hc]
theorem CutR.not {fits : List (List Bool)} {sup need l : List Int} {r : Value} (h : CutR fits sup need l r) (hv : validF fits sup need = true) (hc : ¬ CutP fits sup need l) : r = .tuple #[.bool false, .int .i64 0] := by
  rcases h with ⟨h, -⟩ | ⟨-, b, rfl, hb⟩
  · rw [hv] at h; cases h
  · cases b
    · rfl
    · exact absurd (hb.1 rfl) hc
theorem ofI {M : Mem} {b t : Nat} {l : List Int} (h : (box b t (intV l)).ok M) (hl : l.length ≤ 100) : Ints M (.slice (some ⟨b, 0, none⟩) l.length l.length) l := Ints.ofBox h (by omega)
theorem RBo.elems (M : Mem) (l : List Bool) : Elems 1 RBo M (boV l) l := by
  refine ⟨by simp, fun i x hx => ?_⟩
  show _ = _
  rw [Nat.mul_one, List.take_one, List.head?_drop, boV_get hx]
  rfl
theorem ofB {M : Mem} {b t : Nat} {l : List Bool} (h : (box b t (boV l)).ok M) (hl : l.length ≤ 100) : Bools M (.slice (some ⟨b, 0, none⟩) l.length l.length) l := SlOf.ofBox h (by intro u hu; obtain ⟨x, _, rfl⟩ := List.mem_map.1 hu; rfl) (by omega) (RBo.elems M l)
theorem ofF1 {M : Mem} {b t : Nat} {A : Option Addr} {c : Nat} {x : List Bool} (h : (box b t [.slice A x.length c]).ok M) (hx : Bools M (.slice A x.length c) x) : Fits2 M (.slice (some ⟨b, 0, none⟩) [x].length [x].length) [x] :=
  SlOf.ofBox h (by intro u hu; simp at hu; subst hu; rfl) (by simp) (Elems.one rfl ⟨A, c, rfl, hx⟩)
theorem ofF2 {M : Mem} {b t : Nat} {A B : Option Addr} {c d : Nat} {x y : List Bool} (h : (box b t [.slice A x.length c, .slice B y.length d]).ok M) (hx : Bools M (.slice A x.length c) x) (hy : Bools M (.slice B y.length d) y) : Fits2 M (.slice (some ⟨b, 0, none⟩) [x, y].length [x, y].length) [x, y] :=
  SlOf.ofBox h (by intro u hu; simp at hu; rcases hu with rfl | rfl <;> rfl) (by simp) ((Elems.one (cs := [.slice A x.length c]) rfl ⟨A, c, rfl, hx⟩).append (Elems.one (cs := [.slice B y.length d]) rfl ⟨B, d, rfl, hy⟩))
theorem ofA1 {M : Mem} {b t : Nat} {A : Option Addr} {c : Nat} {x : List Int} (h : (box b t [.slice A x.length c]).ok M) (hx : Ints M (.slice A x.length c) x) : Ints2 M (.slice (some ⟨b, 0, none⟩) [x].length [x].length) [x] :=
  SlOf.ofBox h (by intro u hu; simp at hu; subst hu; rfl) (by simp) (Elems.one rfl ⟨A, c, rfl, hx⟩)
theorem ofA2 {M : Mem} {b t : Nat} {A B : Option Addr} {c d : Nat} {x y : List Int} (h : (box b t [.slice A x.length c, .slice B y.length d]).ok M) (hx : Ints M (.slice A x.length c) x) (hy : Ints M (.slice B y.length d) y) : Ints2 M (.slice (some ⟨b, 0, none⟩) [x, y].length [x, y].length) [x, y] :=
  SlOf.ofBox h (by intro u hu; simp at hu; rcases hu with rfl | rfl <;> rfl) (by simp) ((Elems.one (cs := [.slice A x.length c]) rfl ⟨A, c, rfl, hx⟩).append (Elems.one (cs := [.slice B y.length d]) rfl ⟨B, d, rfl, hy⟩))
set_option maxHeartbeats 16000000 in
set_option maxRecDepth 20000 in
theorem sane_fn (M0 : Mem) : Fn0 Try.prog 9 [] M0 (fun r _ => r = .bool true) := by
  have r64 : ∀ l : List Int, (l.all fun x => decide (-9223372036854775808 ≤ x) && decide (x ≤ 9223372036854775807)) = true → I64s l := fun l h x hx => by
    have := List.all_eq_true.1 h x hx
    simpa using this
  refine Fn.intro Try.func9 rfl rfl Try.ntmps9 rfl fun E F => ?_
  refine Tr.seq ?_
  refine Tr.cut (α := Unit) (fun _ => ⟨232, [], [], M0, F⟩) (fun _ => True) ?_ (fun _ _ => ?_)
  · repeat (first | ((with_reducible refine Tr.step rfl ?_); (((with_reducible refine Knd.assign ?_); (refine Exec.stab rfl (Stab.assign rfl) rfl ?_)))) | (with_reducible refine Tr.region ?_) | (with_reducible refine Tr.nil ?_))
    refine Tr.land () trivial (holds_sub (by repeat (first | exact SubFr.nil | refine SubFr.cons rfl ?_)) (by repeat (first | exact DropL.refl | apply DropL.skip)))
  first | (refine Tr.seq ?_) | (refine Tr.next ?_; refine Tr.seq ?_)
  refine Tr.cut (α := Mem × Nat) (fun y => ⟨232, [(1, .slice (some ⟨y.2, 0, none⟩) 1 1)], [], y.1, F⟩) (fun y => Mem.le M0 y.1 ∧ Fits2 y.1 (.slice (some ⟨y.2, 0, none⟩) 1 1) ([[true, true]] : List (List Bool))) ?_ (fun y hy => ?_)
  · skip
    repeat (first | ((with_reducible refine Tr.step rfl ?_); (first | ((with_reducible refine Knd.assign ?_); (refine Exec.stab rfl (Stab.assign rfl) rfl ?_)) | ((with_reducible refine Knd.buildSlice ?_); ((refine Exec.buildSlice (tysOk.get rfl) rfl (tysOk.get rfl) rfl rfl rfl rfl rfl (by repeat (first | exact BuildP.nil | ((apply BuildP.one); (rfl); (rfl); (first | rfl | assumption); (repeat (first | exact SetL.z | apply SetL.s))))) rfl (fun b => ?_)))))) | (with_reducible refine Tr.region ?_) | (with_reducible refine Tr.nil ?_))
    refine Tr.publish (r := box _ 4 _) (by repeat (first | exact Del.here | apply Del.there)) (fun N1 hm1 hok => ?_)
    have hb1 := ofB (l := [true, true]) hok (by decide)
    clear hok
    refine Tr.publish (r := box _ 43 _) (by repeat (first | exact Del.here | apply Del.there)) (fun N2 hm2 hok => ?_)
    have hboth := ofF1 (x := [true, true]) hok (hb1.mono RBo.mono hm2)
    clear hok
    repeat (fail)
    refine Tr.land (N2, _) ⟨(hm1.trans hm2), hboth⟩ (holds_sub (by repeat (first | exact SubFr.nil | refine SubFr.cons rfl ?_)) (by repeat (first | exact DropL.refl | apply DropL.skip)))
  obtain ⟨M1, bb⟩ := y
  obtain ⟨hg1, hboth⟩ := hy
  dsimp only at hg1 hboth ⊢
  first | (refine Tr.seq ?_) | (refine Tr.next ?_; refine Tr.seq ?_)
  refine Tr.cut (α := Mem) (fun y => ⟨232, [(1, .slice (some ⟨bb, 0, none⟩) 1 1), (3, .bool true), (5, .int .i64 0)], [], y, F⟩) (fun y => Mem.le M1 y) ?_ (fun y hy => ?_)
  · skip
    repeat ((with_reducible refine Tr.region ?_))
    ((refine Tr.step rfl ?_))
    refine Exec.call0 rfl (flow_fn M1 _ _ _ _ _ _ ([] : List (List Bool)) ([] : List Int) ([] : List Int)  (SlOf.nil _ _ _) (SlOf.nil _ _ _) (SlOf.nil _ _ _)  (r64 _ (by decide)) (r64 _ (by decide))) rfl ?_
    rintro _ N1 hm1 hR
    obtain ⟨a, -, A, c, rfl, -⟩ := hR.yes rfl x1_yes
    clear hR
    repeat (first | ((with_reducible refine Tr.step rfl ?_); (first | ((with_reducible refine Knd.move ?_); (refine Exec.stab rfl (Stab.move rfl) rfl ?_)) | ((with_reducible refine Knd.assign ?_); (refine Exec.stab rfl (Stab.assign rfl) rfl ?_)) | ((with_reducible refine Knd.extract ?_); (refine Exec.stab rfl (Stab.extract rfl rfl) rfl ?_)))) | (with_reducible refine Tr.nil ?_))
    refine Tr.land N1 hm1 (holds_sub (by repeat (first | exact SubFr.nil | refine SubFr.cons rfl ?_)) (by repeat (first | exact DropL.refl | apply DropL.skip)))
  generalize y = M2 at *
  have hg2 := hy
  replace hboth := hboth.mono RRowB.mono hg2
  first | (refine Tr.seq ?_) | (refine Tr.next ?_; refine Tr.seq ?_)
  refine Tr.cut (α := Mem × Option Addr × Nat) (fun y => ⟨232, [(1, .slice (some ⟨bb, 0, none⟩) 1 1), (3, .bool true), (5, .int .i64 0), (7, .bool false), (8, .slice y.2.1 1 y.2.2), (9, .int .i64 0)], [], y.1, F⟩) (fun y => Mem.le M2 y.1 ∧ Ints y.1 (.slice y.2.1 1 y.2.2) ([0] : List Int)) ?_ (fun y hy => ?_)
  · skip
    repeat (first | ((with_reducible refine Tr.step rfl ?_); (((with_reducible refine Knd.buildSlice ?_); ((refine Exec.buildSlice (tysOk.get rfl) rfl (tysOk.get rfl) rfl rfl rfl rfl rfl (by repeat (first | exact BuildP.nil | ((apply BuildP.one); (rfl); (rfl); (first | rfl | assumption); (repeat (first | exact SetL.z | apply SetL.s))))) rfl (fun b => ?_)))))) | (with_reducible refine Tr.region ?_))
    refine Tr.publish (r := box _ 3 _) (by repeat (first | exact Del.here | apply Del.there)) (fun N1 hm1 hok => ?_)
    have hn := ofI (l := [1]) hok (by decide)
    clear hok
    ((refine Tr.step rfl ?_))
    refine Exec.call0 rfl (flow_fn N1 _ _ _ _ _ _ ([] : List (List Bool)) ([] : List Int) ([1] : List Int)  (SlOf.nil _ _ _) (SlOf.nil _ _ _) hn  (r64 _ (by decide)) (r64 _ (by decide))) rfl ?_
    rintro _ N2 hm2 hR
    obtain ⟨B, c, rfl, hI⟩ := hR.no rfl x2_no x2_cut
    clear hR
    repeat (first | ((with_reducible refine Tr.step rfl ?_); (first | ((with_reducible refine Knd.move ?_); (refine Exec.stab rfl (Stab.move rfl) rfl ?_)) | ((with_reducible refine Knd.assign ?_); (refine Exec.stab rfl (Stab.assign rfl) rfl ?_)) | ((with_reducible refine Knd.extract ?_); (refine Exec.stab rfl (Stab.extract rfl rfl) rfl ?_)))) | (with_reducible refine Tr.nil ?_))
    refine Tr.land (N2, B, c) ⟨(hm1.trans hm2), hI⟩ (holds_sub (by repeat (first | exact SubFr.nil | refine SubFr.cons rfl ?_)) (by repeat (first | exact DropL.refl | apply DropL.skip)))
  obtain ⟨M3, B2, k2⟩ := y
  obtain ⟨hg3, hcut2⟩ := hy
  dsimp only at hg3 hcut2 ⊢
  replace hboth := hboth.mono RRowB.mono hg3
  first | (refine Tr.seq ?_) | (refine Tr.next ?_; refine Tr.seq ?_)
  refine Tr.cut (α := Mem × Option Addr × Nat) (fun y => ⟨232, [(1, .slice (some ⟨bb, 0, none⟩) 1 1), (3, .bool true), (5, .int .i64 0), (7, .bool false), (8, .slice B2 1 k2), (9, .int .i64 0), (11, .bool false), (12, .slice y.2.1 2 y.2.2), (13, .int .i64 0)], [], y.1, F⟩) (fun y => Mem.le M3 y.1 ∧ Ints y.1 (.slice y.2.1 2 y.2.2) ([0, 1] : List Int)) ?_ (fun y hy => ?_)
  · skip
    repeat (first | ((with_reducible refine Tr.step rfl ?_); (first | ((with_reducible refine Knd.move ?_); (refine Exec.stab rfl (Stab.move rfl) rfl ?_)) | ((with_reducible refine Knd.buildSlice ?_); ((refine Exec.buildSlice (tysOk.get rfl) rfl (tysOk.get rfl) rfl rfl rfl rfl rfl (by repeat (first | exact BuildP.nil | ((apply BuildP.one); (rfl); (rfl); (first | rfl | assumption); (repeat (first | exact SetL.z | apply SetL.s))))) rfl (fun b => ?_)))))) | (with_reducible refine Tr.region ?_))
    refine Tr.publish (r := box _ 3 _) (by repeat (first | exact Del.here | apply Del.there)) (fun N1 hm1 hok => ?_)
    have hn := ofI (l := [2, 2]) hok (by decide)
    clear hok
    refine Tr.publish (r := box _ 3 _) (by repeat (first | exact Del.here | apply Del.there)) (fun N2 hm2 hok => ?_)
    have hs := ofI (l := [3]) hok (by decide)
    clear hok
    ((refine Tr.step rfl ?_))
    refine Exec.call0 rfl (flow_fn N2 _ _ _ _ _ _ ([[true, true]] : List (List Bool)) ([3] : List Int) ([2, 2] : List Int)  (hboth.mono RRowB.mono (hm1.trans hm2)) hs (hn.mono RI.mono hm2)  (r64 _ (by decide)) (r64 _ (by decide))) rfl ?_
    rintro _ N3 hm3 hR
    obtain ⟨B, c, rfl, hI⟩ := hR.no rfl x3_no x3_cut
    clear hR
    repeat (first | ((with_reducible refine Tr.step rfl ?_); (first | ((with_reducible refine Knd.move ?_); (refine Exec.stab rfl (Stab.move rfl) rfl ?_)) | ((with_reducible refine Knd.assign ?_); (refine Exec.stab rfl (Stab.assign rfl) rfl ?_)) | ((with_reducible refine Knd.extract ?_); (refine Exec.stab rfl (Stab.extract rfl rfl) rfl ?_)))) | (with_reducible refine Tr.nil ?_))
    refine Tr.land (N3, B, c) ⟨(hm1.trans (hm2.trans hm3)), hI⟩ (holds_sub (by repeat (first | exact SubFr.nil | refine SubFr.cons rfl ?_)) (by repeat (first | exact DropL.refl | apply DropL.skip)))
  obtain ⟨M4, B3, k3⟩ := y
  obtain ⟨hg4, hcut3⟩ := hy
  dsimp only at hg4 hcut3 ⊢
  replace hboth := hboth.mono RRowB.mono hg4
  replace hcut2 := hcut2.mono RI.mono hg4
  first | (refine Tr.seq ?_) | (refine Tr.next ?_; refine Tr.seq ?_)
  refine Tr.cut (α := Mem × Option Addr × Nat) (fun y => ⟨232, [(1, .slice (some ⟨bb, 0, none⟩) 1 1), (3, .bool true), (5, .int .i64 0), (7, .bool false), (8, .slice B2 1 k2), (9, .int .i64 0), (11, .bool false), (12, .slice B3 2 k3), (13, .int .i64 0), (14, .slice y.2.1 2 y.2.2), (15, .bool true), (17, .int .i64 0)], [], y.1, F⟩) (fun y => Mem.le M4 y.1 ∧ Ints2 y.1 (.slice y.2.1 2 y.2.2) ([[2], [1]] : List (List Int))) ?_ (fun y hy => ?_)
  · skip
    repeat (first | ((with_reducible refine Tr.step rfl ?_); (((with_reducible refine Knd.buildSlice ?_); ((refine Exec.buildSlice (tysOk.get rfl) rfl (tysOk.get rfl) rfl rfl rfl rfl rfl (by repeat (first | exact BuildP.nil | ((apply BuildP.one); (rfl); (rfl); (first | rfl | assumption); (repeat (first | exact SetL.z | apply SetL.s))))) rfl (fun b => ?_)))))) | (with_reducible refine Tr.region ?_))
    refine Tr.publish (r := box _ 3 _) (by repeat (first | exact Del.here | apply Del.there)) (fun N1 hm1 hok => ?_)
    have hn := ofI (l := [3]) hok (by decide)
    clear hok
    refine Tr.publish (r := box _ 3 _) (by repeat (first | exact Del.here | apply Del.there)) (fun N2 hm2 hok => ?_)
    have hs := ofI (l := [2, 2]) hok (by decide)
    clear hok
    refine Tr.publish (r := box _ 4 _) (by repeat (first | exact Del.here | apply Del.there)) (fun N3 hm3 hok => ?_)
    have hb2_ := ofB (l := [true]) hok (by decide)
    clear hok
    refine Tr.publish (r := box _ 4 _) (by repeat (first | exact Del.here | apply Del.there)) (fun N4 hm4 hok => ?_)
    have hb1_ := ofB (l := [true]) hok (by decide)
    clear hok
    refine Tr.publish (r := box _ 43 _) (by repeat (first | exact Del.here | apply Del.there)) (fun N5 hm5 hok => ?_)
    have hf := ofF2 (x := [true]) (y := [true]) hok (hb1_.mono RBo.mono hm5) (hb2_.mono RBo.mono (hm4.trans hm5))
    clear hok
    ((refine Tr.step rfl ?_))
    refine Exec.call0 rfl (flow_fn N5 _ _ _ _ _ _ ([[true], [true]] : List (List Bool)) ([2, 2] : List Int) ([3] : List Int)  hf (hs.mono RI.mono (hm3.trans (hm4.trans hm5))) (hn.mono RI.mono (hm2.trans (hm3.trans (hm4.trans hm5))))  (r64 _ (by decide)) (r64 _ (by decide))) rfl ?_
    rintro _ N6 hm6 hR
    obtain ⟨a, hmax, A, c, rfl, hI⟩ := hR.yes rfl x4_yes
    clear hR
    rw [show allocOf a ([3] : List Int).length ([2, 2] : List Int).length = [[2], [1]] from x4_max hmax] at hI ⊢
    repeat (first | ((with_reducible refine Tr.step rfl ?_); (first | ((with_reducible refine Knd.move ?_); (refine Exec.stab rfl (Stab.move rfl) rfl ?_)) | ((with_reducible refine Knd.assign ?_); (refine Exec.stab rfl (Stab.assign rfl) rfl ?_)) | ((with_reducible refine Knd.extract ?_); (refine Exec.stab rfl (Stab.extract rfl rfl) rfl ?_)))) | (with_reducible refine Tr.nil ?_))
    refine Tr.land (N6, A, c) ⟨(hm1.trans (hm2.trans (hm3.trans (hm4.trans (hm5.trans hm6))))), hI⟩ (holds_sub (by repeat (first | exact SubFr.nil | refine SubFr.cons rfl ?_)) (by repeat (first | exact DropL.refl | apply DropL.skip)))
  obtain ⟨M5, B4, k4⟩ := y
  obtain ⟨hg5, ham4⟩ := hy
  dsimp only at hg5 ham4 ⊢
  replace hboth := hboth.mono RRowB.mono hg5
  replace hcut2 := hcut2.mono RI.mono hg5
  replace hcut3 := hcut3.mono RI.mono hg5
  first | (refine Tr.seq ?_) | (refine Tr.next ?_; refine Tr.seq ?_)
  refine Tr.cut (α := Mem × Option Addr × Nat) (fun y => ⟨232, [(1, .slice (some ⟨bb, 0, none⟩) 1 1), (3, .bool true), (5, .int .i64 0), (7, .bool false), (8, .slice B2 1 k2), (9, .int .i64 0), (11, .bool false), (12, .slice B3 2 k3), (13, .int .i64 0), (14, .slice B4 2 k4), (15, .bool true), (17, .int .i64 0), (18, .slice y.2.1 2 y.2.2), (19, .bool true), (21, .int .i64 0)], [], y.1, F⟩) (fun y => Mem.le M5 y.1 ∧ Ints2 y.1 (.slice y.2.1 2 y.2.2) ([[1, 2], [1, 0]] : List (List Int))) ?_ (fun y hy => ?_)
  · skip
    repeat (first | ((with_reducible refine Tr.step rfl ?_); (((with_reducible refine Knd.buildSlice ?_); ((refine Exec.buildSlice (tysOk.get rfl) rfl (tysOk.get rfl) rfl rfl rfl rfl rfl (by repeat (first | exact BuildP.nil | ((apply BuildP.one); (rfl); (rfl); (first | rfl | assumption); (repeat (first | exact SetL.z | apply SetL.s))))) rfl (fun b => ?_)))))) | (with_reducible refine Tr.region ?_))
    refine Tr.publish (r := box _ 3 _) (by repeat (first | exact Del.here | apply Del.there)) (fun N1 hm1 hok => ?_)
    have hn := ofI (l := [2, 2]) hok (by decide)
    clear hok
    refine Tr.publish (r := box _ 3 _) (by repeat (first | exact Del.here | apply Del.there)) (fun N2 hm2 hok => ?_)
    have hs := ofI (l := [3, 3]) hok (by decide)
    clear hok
    refine Tr.publish (r := box _ 4 _) (by repeat (first | exact Del.here | apply Del.there)) (fun N3 hm3 hok => ?_)
    have hb2_ := ofB (l := [true, false]) hok (by decide)
    clear hok
    refine Tr.publish (r := box _ 4 _) (by repeat (first | exact Del.here | apply Del.there)) (fun N4 hm4 hok => ?_)
    have hb1_ := ofB (l := [true, true]) hok (by decide)
    clear hok
    refine Tr.publish (r := box _ 43 _) (by repeat (first | exact Del.here | apply Del.there)) (fun N5 hm5 hok => ?_)
    have hf := ofF2 (x := [true, true]) (y := [true, false]) hok (hb1_.mono RBo.mono hm5) (hb2_.mono RBo.mono (hm4.trans hm5))
    clear hok
    ((refine Tr.step rfl ?_))
    refine Exec.call0 rfl (flow_fn N5 _ _ _ _ _ _ ([[true, true], [true, false]] : List (List Bool)) ([3, 3] : List Int) ([2, 2] : List Int)  hf (hs.mono RI.mono (hm3.trans (hm4.trans hm5))) (hn.mono RI.mono (hm2.trans (hm3.trans (hm4.trans hm5))))  (r64 _ (by decide)) (r64 _ (by decide))) rfl ?_
    rintro _ N6 hm6 hR
    obtain ⟨a, hmax, A, c, rfl, hI⟩ := hR.yes rfl x5_yes
    clear hR
    rw [show allocOf a ([2, 2] : List Int).length ([3, 3] : List Int).length = [[1, 2], [1, 0]] from x5_max hmax] at hI ⊢
    repeat (first | ((with_reducible refine Tr.step rfl ?_); (first | ((with_reducible refine Knd.move ?_); (refine Exec.stab rfl (Stab.move rfl) rfl ?_)) | ((with_reducible refine Knd.assign ?_); (refine Exec.stab rfl (Stab.assign rfl) rfl ?_)) | ((with_reducible refine Knd.extract ?_); (refine Exec.stab rfl (Stab.extract rfl rfl) rfl ?_)))) | (with_reducible refine Tr.nil ?_))
    refine Tr.land (N6, A, c) ⟨(hm1.trans (hm2.trans (hm3.trans (hm4.trans (hm5.trans hm6))))), hI⟩ (holds_sub (by repeat (first | exact SubFr.nil | refine SubFr.cons rfl ?_)) (by repeat (first | exact DropL.refl | apply DropL.skip)))
  obtain ⟨M6, B5, k5⟩ := y
  obtain ⟨hg6, ham5⟩ := hy
  dsimp only at hg6 ham5 ⊢
  replace hboth := hboth.mono RRowB.mono hg6
  replace hcut2 := hcut2.mono RI.mono hg6
  replace hcut3 := hcut3.mono RI.mono hg6
  replace ham4 := ham4.mono RRowI.mono hg6
  first | (refine Tr.seq ?_) | (refine Tr.next ?_; refine Tr.seq ?_)
  refine Tr.cut (α := Mem × Option Addr × Nat) (fun y => ⟨232, [(1, .slice (some ⟨bb, 0, none⟩) 1 1), (3, .bool true), (5, .int .i64 0), (7, .bool false), (8, .slice B2 1 k2), (9, .int .i64 0), (11, .bool false), (12, .slice B3 2 k3), (13, .int .i64 0), (14, .slice B4 2 k4), (15, .bool true), (17, .int .i64 0), (18, .slice B5 2 k5), (19, .bool true), (21, .int .i64 0), (23, .bool false), (24, .slice y.2.1 1 y.2.2), (25, .int .i64 0)], [], y.1, F⟩) (fun y => Mem.le M6 y.1 ∧ Ints y.1 (.slice y.2.1 1 y.2.2) ([0] : List Int)) ?_ (fun y hy => ?_)
  · skip
    repeat (first | ((with_reducible refine Tr.step rfl ?_); (((with_reducible refine Knd.buildSlice ?_); ((refine Exec.buildSlice (tysOk.get rfl) rfl (tysOk.get rfl) rfl rfl rfl rfl rfl (by repeat (first | exact BuildP.nil | ((apply BuildP.one); (rfl); (rfl); (first | rfl | assumption); (repeat (first | exact SetL.z | apply SetL.s))))) rfl (fun b => ?_)))))) | (with_reducible refine Tr.region ?_))
    refine Tr.publish (r := box _ 3 _) (by repeat (first | exact Del.here | apply Del.there)) (fun N1 hm1 hok => ?_)
    have hn := ofI (l := [2, 3, 3]) hok (by decide)
    clear hok
    refine Tr.publish (r := box _ 3 _) (by repeat (first | exact Del.here | apply Del.there)) (fun N2 hm2 hok => ?_)
    have hs := ofI (l := [1, 5]) hok (by decide)
    clear hok
    refine Tr.publish (r := box _ 4 _) (by repeat (first | exact Del.here | apply Del.there)) (fun N3 hm3 hok => ?_)
    have hb2_ := ofB (l := [false, true, true]) hok (by decide)
    clear hok
    refine Tr.publish (r := box _ 4 _) (by repeat (first | exact Del.here | apply Del.there)) (fun N4 hm4 hok => ?_)
    have hb1_ := ofB (l := [true, false, true]) hok (by decide)
    clear hok
    refine Tr.publish (r := box _ 43 _) (by repeat (first | exact Del.here | apply Del.there)) (fun N5 hm5 hok => ?_)
    have hf := ofF2 (x := [true, false, true]) (y := [false, true, true]) hok (hb1_.mono RBo.mono hm5) (hb2_.mono RBo.mono (hm4.trans hm5))
    clear hok
    ((refine Tr.step rfl ?_))
    refine Exec.call0 rfl (flow_fn N5 _ _ _ _ _ _ ([[true, false, true], [false, true, true]] : List (List Bool)) ([1, 5] : List Int) ([2, 3, 3] : List Int)  hf (hs.mono RI.mono (hm3.trans (hm4.trans hm5))) (hn.mono RI.mono (hm2.trans (hm3.trans (hm4.trans hm5))))  (r64 _ (by decide)) (r64 _ (by decide))) rfl ?_
    rintro _ N6 hm6 hR
    obtain ⟨B, c, rfl, hI⟩ := hR.no rfl x6_no x6_cut
    clear hR
    repeat (first | ((with_reducible refine Tr.step rfl ?_); (first | ((with_reducible refine Knd.move ?_); (refine Exec.stab rfl (Stab.move rfl) rfl ?_)) | ((with_reducible refine Knd.assign ?_); (refine Exec.stab rfl (Stab.assign rfl) rfl ?_)) | ((with_reducible refine Knd.extract ?_); (refine Exec.stab rfl (Stab.extract rfl rfl) rfl ?_)))) | (with_reducible refine Tr.nil ?_))
    refine Tr.land (N6, B, c) ⟨(hm1.trans (hm2.trans (hm3.trans (hm4.trans (hm5.trans hm6))))), hI⟩ (holds_sub (by repeat (first | exact SubFr.nil | refine SubFr.cons rfl ?_)) (by repeat (first | exact DropL.refl | apply DropL.skip)))
  obtain ⟨M7, B6, k6⟩ := y
  obtain ⟨hg7, hcut6⟩ := hy
  dsimp only at hg7 hcut6 ⊢
  replace hboth := hboth.mono RRowB.mono hg7
  replace hcut2 := hcut2.mono RI.mono hg7
  replace hcut3 := hcut3.mono RI.mono hg7
  replace ham4 := ham4.mono RRowI.mono hg7
  replace ham5 := ham5.mono RRowI.mono hg7
  first | (refine Tr.seq ?_) | (refine Tr.next ?_; refine Tr.seq ?_)
  refine Tr.cut (α := Mem) (fun y => ⟨232, [(1, .slice (some ⟨bb, 0, none⟩) 1 1), (3, .bool true), (5, .int .i64 0), (7, .bool false), (8, .slice B2 1 k2), (9, .int .i64 0), (11, .bool false), (12, .slice B3 2 k3), (13, .int .i64 0), (14, .slice B4 2 k4), (15, .bool true), (17, .int .i64 0), (18, .slice B5 2 k5), (19, .bool true), (21, .int .i64 0), (23, .bool false), (24, .slice B6 1 k6), (25, .int .i64 0), (26, .int .i64 3), (27, .int .i64 0)], [], y, F⟩) (fun y => Mem.le M7 y) ?_ (fun y hy => ?_)
  · skip
    repeat (first | ((with_reducible refine Tr.step rfl ?_); (((with_reducible refine Knd.buildSlice ?_); ((refine Exec.buildSlice (tysOk.get rfl) rfl (tysOk.get rfl) rfl rfl rfl rfl rfl (by repeat (first | exact BuildP.nil | ((apply BuildP.one); (rfl); (rfl); (first | rfl | assumption); (repeat (first | exact SetL.z | apply SetL.s))))) rfl (fun b => ?_)))))) | (with_reducible refine Tr.region ?_))
    refine Tr.publish (r := box _ 3 _) (by repeat (first | exact Del.here | apply Del.there)) (fun N1 hm1 hok => ?_)
    have hn := ofI (l := [5]) hok (by decide)
    clear hok
    refine Tr.publish (r := box _ 3 _) (by repeat (first | exact Del.here | apply Del.there)) (fun N2 hm2 hok => ?_)
    have hs := ofI (l := [3]) hok (by decide)
    clear hok
    refine Tr.publish (r := box _ 4 _) (by repeat (first | exact Del.here | apply Del.there)) (fun N3 hm3 hok => ?_)
    have hb := ofB (l := [true]) hok (by decide)
    clear hok
    refine Tr.publish (r := box _ 43 _) (by repeat (first | exact Del.here | apply Del.there)) (fun N4 hm4 hok => ?_)
    have hf := ofF1 (x := [true]) hok (hb.mono RBo.mono hm4)
    clear hok
    ((refine Tr.step rfl ?_))
    refine Exec.call0 rfl (most2_fn N4 _ _ _ _ _ _ ([[true]] : List (List Bool)) ([3] : List Int) ([5] : List Int)  hf (hs.mono RI.mono (hm3.trans hm4)) (hn.mono RI.mono (hm2.trans (hm3.trans hm4)))  (r64 _ (by decide)) (r64 _ (by decide))) rfl ?_
    rintro _ _ - ⟨hR, rfl⟩
    rcases hR with ⟨h, -⟩ | ⟨-, L7, rfl, hL7⟩
    · cases h
    have e7 := hL7.unique x7_lack
    subst e7
    rw [show ([5] : List Int).sum - 2 = 3 from rfl]
    repeat (first | ((with_reducible refine Tr.step rfl ?_); (first | ((with_reducible refine Knd.move ?_); (refine Exec.stab rfl (Stab.move rfl) rfl ?_)) | ((with_reducible refine Knd.assign ?_); (refine Exec.stab rfl (Stab.assign rfl) rfl ?_)) | ((with_reducible refine Knd.extract ?_); (refine Exec.stab rfl (Stab.extract rfl rfl) rfl ?_)))) | (with_reducible refine Tr.nil ?_))
    refine Tr.land N4 (hm1.trans (hm2.trans (hm3.trans hm4))) (holds_sub (by repeat (first | exact SubFr.nil | refine SubFr.cons rfl ?_)) (by repeat (first | exact DropL.refl | apply DropL.skip)))
  generalize y = M8 at *
  have hg8 := hy
  replace hboth := hboth.mono RRowB.mono hg8
  replace hcut2 := hcut2.mono RI.mono hg8
  replace hcut3 := hcut3.mono RI.mono hg8
  replace ham4 := ham4.mono RRowI.mono hg8
  replace ham5 := ham5.mono RRowI.mono hg8
  replace hcut6 := hcut6.mono RI.mono hg8
  first | (refine Tr.seq ?_) | (refine Tr.next ?_; refine Tr.seq ?_)
  refine Tr.cut (α := Mem) (fun y => ⟨232, [(1, .slice (some ⟨bb, 0, none⟩) 1 1), (3, .bool true), (5, .int .i64 0), (7, .bool false), (8, .slice B2 1 k2), (9, .int .i64 0), (11, .bool false), (12, .slice B3 2 k3), (13, .int .i64 0), (14, .slice B4 2 k4), (15, .bool true), (17, .int .i64 0), (18, .slice B5 2 k5), (19, .bool true), (21, .int .i64 0), (23, .bool false), (24, .slice B6 1 k6), (25, .int .i64 0), (26, .int .i64 3), (27, .int .i64 0), (28, .bool true), (29, .int .i64 0)], [], y, F⟩) (fun y => Mem.le M8 y) ?_ (fun y hy => ?_)
  · skip
    repeat (first | ((with_reducible refine Tr.step rfl ?_); (first | ((with_reducible refine Knd.move ?_); (refine Exec.stab rfl (Stab.move rfl) rfl ?_)) | ((with_reducible refine Knd.buildSlice ?_); ((refine Exec.buildSlice (tysOk.get rfl) rfl (tysOk.get rfl) rfl rfl rfl rfl rfl (by repeat (first | exact BuildP.nil | ((apply BuildP.one); (rfl); (rfl); (first | rfl | assumption); (repeat (first | exact SetL.z | apply SetL.s))))) rfl (fun b => ?_)))))) | (with_reducible refine Tr.region ?_))
    refine Tr.publish (r := box _ 3 _) (by repeat (first | exact Del.here | apply Del.there)) (fun N1 hm1 hok => ?_)
    have hr := ofI (l := [2, 1]) hok (by decide)
    clear hok
    refine Tr.publish (r := box _ 3 _) (by repeat (first | exact Del.here | apply Del.there)) (fun N2 hm2 hok => ?_)
    have hn := ofI (l := [2, 1]) hok (by decide)
    clear hok
    refine Tr.publish (r := box _ 3 _) (by repeat (first | exact Del.here | apply Del.there)) (fun N3 hm3 hok => ?_)
    have hs := ofI (l := [3]) hok (by decide)
    clear hok
    refine Tr.publish (r := box _ 23 _) (by repeat (first | exact Del.here | apply Del.there)) (fun N4 hm4 hok => ?_)
    have ha := ofA1 (x := [2, 1]) hok (hr.mono RI.mono (hm2.trans (hm3.trans hm4)))
    clear hok
    ((refine Tr.step rfl ?_))
    refine Exec.call0 rfl (check_fn N4 _ _ _ _ _ _ _ _ ([[true, true]] : List (List Bool)) ([3] : List Int) ([2, 1] : List Int) ([[2, 1]] : List (List Int)) (hboth.mono RRowB.mono (hm1.trans (hm2.trans (hm3.trans hm4)))) (hs.mono RI.mono hm4) (hn.mono RI.mono (hm3.trans hm4)) ha (r64 _ (by decide)) (r64 _ (by decide))) rfl ?_
    rintro _ _ - ⟨hR, rfl⟩
    obtain rfl := hR.yes rfl x8_check
    clear hR
    repeat (first | ((with_reducible refine Tr.step rfl ?_); (first | ((with_reducible refine Knd.move ?_); (refine Exec.stab rfl (Stab.move rfl) rfl ?_)) | ((with_reducible refine Knd.assign ?_); (refine Exec.stab rfl (Stab.assign rfl) rfl ?_)) | ((with_reducible refine Knd.extract ?_); (refine Exec.stab rfl (Stab.extract rfl rfl) rfl ?_)))) | (with_reducible refine Tr.nil ?_))
    refine Tr.land N4 (hm1.trans (hm2.trans (hm3.trans hm4))) (holds_sub (by repeat (first | exact SubFr.nil | refine SubFr.cons rfl ?_)) (by repeat (first | exact DropL.refl | apply DropL.skip)))
  generalize y = M9 at *
  have hg9 := hy
  replace hboth := hboth.mono RRowB.mono hg9
  replace hcut2 := hcut2.mono RI.mono hg9
  replace hcut3 := hcut3.mono RI.mono hg9
  replace ham4 := ham4.mono RRowI.mono hg9
  replace ham5 := ham5.mono RRowI.mono hg9
  replace hcut6 := hcut6.mono RI.mono hg9
  first | (refine Tr.seq ?_) | (refine Tr.next ?_; refine Tr.seq ?_)
  refine Tr.cut (α := Mem) (fun y => ⟨232, [(1, .slice (some ⟨bb, 0, none⟩) 1 1), (3, .bool true), (5, .int .i64 0), (7, .bool false), (8, .slice B2 1 k2), (9, .int .i64 0), (11, .bool false), (12, .slice B3 2 k3), (13, .int .i64 0), (14, .slice B4 2 k4), (15, .bool true), (17, .int .i64 0), (18, .slice B5 2 k5), (19, .bool true), (21, .int .i64 0), (23, .bool false), (24, .slice B6 1 k6), (25, .int .i64 0), (26, .int .i64 3), (27, .int .i64 0), (28, .bool true), (29, .int .i64 0), (30, .bool true), (31, .int .i64 0)], [], y, F⟩) (fun y => Mem.le M9 y) ?_ (fun y hy => ?_)
  · skip
    repeat (first | ((with_reducible refine Tr.step rfl ?_); (first | ((with_reducible refine Knd.move ?_); (refine Exec.stab rfl (Stab.move rfl) rfl ?_)) | ((with_reducible refine Knd.buildSlice ?_); ((refine Exec.buildSlice (tysOk.get rfl) rfl (tysOk.get rfl) rfl rfl rfl rfl rfl (by repeat (first | exact BuildP.nil | ((apply BuildP.one); (rfl); (rfl); (first | rfl | assumption); (repeat (first | exact SetL.z | apply SetL.s))))) rfl (fun b => ?_)))))) | (with_reducible refine Tr.region ?_))
    refine Tr.publish (r := box _ 3 _) (by repeat (first | exact Del.here | apply Del.there)) (fun N1 hm1 hok => ?_)
    have hc := ofI (l := [0, 1]) hok (by decide)
    clear hok
    refine Tr.publish (r := box _ 3 _) (by repeat (first | exact Del.here | apply Del.there)) (fun N2 hm2 hok => ?_)
    have hn := ofI (l := [2, 2]) hok (by decide)
    clear hok
    refine Tr.publish (r := box _ 3 _) (by repeat (first | exact Del.here | apply Del.there)) (fun N3 hm3 hok => ?_)
    have hs := ofI (l := [3]) hok (by decide)
    clear hok
    ((refine Tr.step rfl ?_))
    refine Exec.call0 rfl (cut_fn N3 _ _ _ _ _ _ _ _ ([[true, true]] : List (List Bool)) ([3] : List Int) ([2, 2] : List Int) ([0, 1] : List Int) (hboth.mono RRowB.mono (hm1.trans (hm2.trans hm3))) hs (hn.mono RI.mono hm3) (hc.mono RI.mono (hm2.trans hm3)) (r64 _ (by decide)) (r64 _ (by decide))) rfl ?_
    rintro _ _ - ⟨hR, rfl⟩
    obtain rfl := hR.yes rfl x9_cut
    clear hR
    repeat (first | ((with_reducible refine Tr.step rfl ?_); (first | ((with_reducible refine Knd.move ?_); (refine Exec.stab rfl (Stab.move rfl) rfl ?_)) | ((with_reducible refine Knd.assign ?_); (refine Exec.stab rfl (Stab.assign rfl) rfl ?_)) | ((with_reducible refine Knd.extract ?_); (refine Exec.stab rfl (Stab.extract rfl rfl) rfl ?_)))) | (with_reducible refine Tr.nil ?_))
    refine Tr.land N3 (hm1.trans (hm2.trans hm3)) (holds_sub (by repeat (first | exact SubFr.nil | refine SubFr.cons rfl ?_)) (by repeat (first | exact DropL.refl | apply DropL.skip)))
  generalize y = M10 at *
  have hg10 := hy
  replace hboth := hboth.mono RRowB.mono hg10
  replace hcut2 := hcut2.mono RI.mono hg10
  replace hcut3 := hcut3.mono RI.mono hg10
  replace ham4 := ham4.mono RRowI.mono hg10
  replace ham5 := ham5.mono RRowI.mono hg10
  replace hcut6 := hcut6.mono RI.mono hg10
  first | (refine Tr.seq ?_) | (refine Tr.next ?_; refine Tr.seq ?_)
  refine Tr.cut (α := Mem) (fun y => ⟨232, [(1, .slice (some ⟨bb, 0, none⟩) 1 1), (3, .bool true), (5, .int .i64 0), (7, .bool false), (8, .slice B2 1 k2), (9, .int .i64 0), (11, .bool false), (12, .slice B3 2 k3), (13, .int .i64 0), (14, .slice B4 2 k4), (15, .bool true), (17, .int .i64 0), (18, .slice B5 2 k5), (19, .bool true), (21, .int .i64 0), (23, .bool false), (24, .slice B6 1 k6), (25, .int .i64 0), (26, .int .i64 3), (27, .int .i64 0), (28, .bool true), (29, .int .i64 0), (30, .bool true), (31, .int .i64 0), (32, .bool false), (33, .int .i64 0)], [], y, F⟩) (fun y => Mem.le M10 y) ?_ (fun y hy => ?_)
  · skip
    repeat (first | ((with_reducible refine Tr.step rfl ?_); (first | ((with_reducible refine Knd.move ?_); (refine Exec.stab rfl (Stab.move rfl) rfl ?_)) | ((with_reducible refine Knd.buildSlice ?_); ((refine Exec.buildSlice (tysOk.get rfl) rfl (tysOk.get rfl) rfl rfl rfl rfl rfl (by repeat (first | exact BuildP.nil | ((apply BuildP.one); (rfl); (rfl); (first | rfl | assumption); (repeat (first | exact SetL.z | apply SetL.s))))) rfl (fun b => ?_)))))) | (with_reducible refine Tr.region ?_))
    refine Tr.publish (r := box _ 3 _) (by repeat (first | exact Del.here | apply Del.there)) (fun N1 hm1 hok => ?_)
    have hn := ofI (l := [2, 2]) hok (by decide)
    clear hok
    refine Tr.publish (r := box _ 3 _) (by repeat (first | exact Del.here | apply Del.there)) (fun N2 hm2 hok => ?_)
    have hs := ofI (l := [3]) hok (by decide)
    clear hok
    ((refine Tr.step rfl ?_))
    refine Exec.call0 rfl (cut_fn N2 _ _ _ _ _ _ _ _ ([[true, true]] : List (List Bool)) ([3] : List Int) ([2, 2] : List Int) ([] : List Int) (hboth.mono RRowB.mono (hm1.trans hm2)) hs (hn.mono RI.mono hm2) (SlOf.nil _ _ _) (r64 _ (by decide)) (r64 _ (by decide))) rfl ?_
    rintro _ _ - ⟨hR, rfl⟩
    obtain rfl := hR.not rfl x10_cut
    clear hR
    repeat (first | ((with_reducible refine Tr.step rfl ?_); (first | ((with_reducible refine Knd.move ?_); (refine Exec.stab rfl (Stab.move rfl) rfl ?_)) | ((with_reducible refine Knd.assign ?_); (refine Exec.stab rfl (Stab.assign rfl) rfl ?_)) | ((with_reducible refine Knd.extract ?_); (refine Exec.stab rfl (Stab.extract rfl rfl) rfl ?_)))) | (with_reducible refine Tr.nil ?_))
    refine Tr.land N2 (hm1.trans hm2) (holds_sub (by repeat (first | exact SubFr.nil | refine SubFr.cons rfl ?_)) (by repeat (first | exact DropL.refl | apply DropL.skip)))
  generalize y = M11 at *
  have hg11 := hy
  replace hboth := hboth.mono RRowB.mono hg11
  replace hcut2 := hcut2.mono RI.mono hg11
  replace hcut3 := hcut3.mono RI.mono hg11
  replace ham4 := ham4.mono RRowI.mono hg11
  replace ham5 := ham5.mono RRowI.mono hg11
  replace hcut6 := hcut6.mono RI.mono hg11
  first | (refine Tr.seq ?_) | (refine Tr.next ?_; refine Tr.seq ?_)
  refine Tr.cut (α := Mem) (fun y => ⟨232, [(1, .slice (some ⟨bb, 0, none⟩) 1 1), (3, .bool true), (5, .int .i64 0), (7, .bool false), (8, .slice B2 1 k2), (9, .int .i64 0), (11, .bool false), (12, .slice B3 2 k3), (13, .int .i64 0), (14, .slice B4 2 k4), (15, .bool true), (17, .int .i64 0), (18, .slice B5 2 k5), (19, .bool true), (21, .int .i64 0), (23, .bool false), (24, .slice B6 1 k6), (25, .int .i64 0), (26, .int .i64 3), (27, .int .i64 0), (28, .bool true), (29, .int .i64 0), (30, .bool true), (31, .int .i64 0), (32, .bool false), (33, .int .i64 0), (34, .bool false), (35, .int .i64 300)], [], y, F⟩) (fun y => Mem.le M11 y) ?_ (fun y hy => ?_)
  · skip
    repeat (first | ((with_reducible refine Tr.step rfl ?_); (first | ((with_reducible refine Knd.move ?_); (refine Exec.stab rfl (Stab.move rfl) rfl ?_)) | ((with_reducible refine Knd.buildSlice ?_); ((refine Exec.buildSlice (tysOk.get rfl) rfl (tysOk.get rfl) rfl rfl rfl rfl rfl (by repeat (first | exact BuildP.nil | ((apply BuildP.one); (rfl); (rfl); (first | rfl | assumption); (repeat (first | exact SetL.z | apply SetL.s))))) rfl (fun b => ?_)))))) | (with_reducible refine Tr.region ?_))
    refine Tr.publish (r := box _ 3 _) (by repeat (first | exact Del.here | apply Del.there)) (fun N1 hm1 hok => ?_)
    have hn := ofI (l := [2, 1]) hok (by decide)
    clear hok
    refine Tr.publish (r := box _ 3 _) (by repeat (first | exact Del.here | apply Del.there)) (fun N2 hm2 hok => ?_)
    have hs := ofI (l := [(-1)]) hok (by decide)
    clear hok
    ((refine Tr.step rfl ?_))
    refine Exec.call0 rfl (check_fn N2 _ _ _ _ _ _ _ _ ([[true, true]] : List (List Bool)) ([(-1)] : List Int) ([2, 1] : List Int) ([] : List (List Int)) (hboth.mono RRowB.mono (hm1.trans hm2)) hs (hn.mono RI.mono hm2) (SlOf.nil _ _ _) (r64 _ (by decide)) (r64 _ (by decide))) rfl ?_
    rintro _ _ - ⟨hR, rfl⟩
    obtain rfl := hR.bad (by decide)
    clear hR
    repeat (first | ((with_reducible refine Tr.step rfl ?_); (first | ((with_reducible refine Knd.move ?_); (refine Exec.stab rfl (Stab.move rfl) rfl ?_)) | ((with_reducible refine Knd.assign ?_); (refine Exec.stab rfl (Stab.assign rfl) rfl ?_)) | ((with_reducible refine Knd.extract ?_); (refine Exec.stab rfl (Stab.extract rfl rfl) rfl ?_)))) | (with_reducible refine Tr.nil ?_))
    refine Tr.land N2 (hm1.trans hm2) (holds_sub (by repeat (first | exact SubFr.nil | refine SubFr.cons rfl ?_)) (by repeat (first | exact DropL.refl | apply DropL.skip)))
  generalize y = M12 at *
  have hg12 := hy
  replace hboth := hboth.mono RRowB.mono hg12
  replace hcut2 := hcut2.mono RI.mono hg12
  replace hcut3 := hcut3.mono RI.mono hg12
  replace ham4 := ham4.mono RRowI.mono hg12
  replace ham5 := ham5.mono RRowI.mono hg12
  replace hcut6 := hcut6.mono RI.mono hg12
  first | (refine Tr.seq ?_) | (refine Tr.next ?_; refine Tr.seq ?_)
  refine Tr.cut (α := Unit) (fun _ => ⟨232, [(3, .bool true), (7, .bool false), (8, .slice B2 1 k2), (11, .bool false), (12, .slice B3 2 k3), (14, .slice B4 2 k4), (15, .bool true), (18, .slice B5 2 k5), (19, .bool true), (23, .bool false), (24, .slice B6 1 k6), (26, .int .i64 3), (28, .bool true), (30, .bool true), (32, .bool false)], [], M12, F⟩) (fun _ => True) ?_ (fun _ _ => ?_)
  · repeat (first | ((with_reducible refine Tr.step rfl ?_); (first | ((with_reducible refine Knd.move ?_); (refine Exec.stab rfl (Stab.move rfl) rfl ?_)) | ((with_reducible refine Knd.binOp ?_); ((refine Exec.stab rfl (Stab.int rfl rfl rfl) rfl ?_))) | ((with_reducible refine Knd.pick ?_); ((refine Exec.stab rfl (Stab.pick_fd rfl (by first | (with_reducible assumption) | (with_reducible rfl) | (with_reducible exact (not_not_intro rfl)) | omega) rfl) rfl ?_))))) | (with_reducible refine Tr.next ?_) | (with_reducible refine Tr.seq ?_) | (with_reducible refine Tr.region ?_) | (with_reducible refine Tr.nil ?_) | ((refine Tr.guard_y' rfl rfl rfl (by first | (with_reducible assumption) | (with_reducible rfl) | (with_reducible exact (not_not_intro rfl)) | omega) ?_); (first | ((with_reducible refine Knd.move ?_); (refine Exec.stab rfl (Stab.move rfl) rfl ?_)) | ((with_reducible refine Knd.binOp ?_); ((refine Exec.stab rfl (Stab.int rfl rfl rfl) rfl ?_))))) | (with_reducible refine Tr.skip ?_) | (refine Tr.cond_f rfl (by first | (with_reducible assumption) | (with_reducible rfl) | (with_reducible exact (not_not_intro rfl)) | omega) ?_))
    refine Tr.land () trivial (holds_sub (by repeat (first | exact SubFr.nil | refine SubFr.cons rfl ?_)) (by repeat (first | exact DropL.refl | apply DropL.skip)))
  first | (refine Tr.seq ?_) | (refine Tr.next ?_; refine Tr.seq ?_)
  refine Tr.cut (α := Mem) (fun y => ⟨232, [(0, .bool true)], [], y, F⟩) (fun y => Mem.le M12 y) ?_ (fun y hy => ?_)
  · skip
    repeat (first | ((with_reducible refine Tr.step rfl ?_); (first | ((with_reducible refine Knd.move ?_); (refine Exec.stab rfl (Stab.move rfl) rfl ?_)) | ((with_reducible refine Knd.pick ?_); ((refine Exec.stab rfl (Stab.pick_t rfl (by first | (with_reducible rfl) | (with_reducible assumption) | (with_reducible exact Bool.not_true) | (with_reducible exact Bool.not_false)) rfl) rfl ?_))))) | (with_reducible refine Tr.region ?_) | ((refine Tr.guard_l rfl rfl rfl (by first | (with_reducible rfl) | (with_reducible assumption) | (with_reducible exact Bool.not_true) | (with_reducible exact Bool.not_false)) ?_); (first | ((with_reducible refine Knd.move ?_); (refine Exec.stab rfl (Stab.move rfl) rfl ?_)) | ((with_reducible refine Knd.unOp ?_); ((refine Exec.stab rfl (Stab.not rfl) rfl ?_))) | ((with_reducible refine Knd.buildSlice ?_); ((refine Exec.buildSlice (tysOk.get rfl) rfl (tysOk.get rfl) rfl rfl rfl rfl rfl (by repeat (first | exact BuildP.nil | ((apply BuildP.one); (rfl); (rfl); (first | rfl | assumption); (repeat (first | exact SetL.z | apply SetL.s))))) rfl (fun b => ?_)))))))
    refine Tr.publish (r := box _ 3 _) (by repeat (first | exact Del.here | apply Del.there)) (fun N1 hm1 hok => ?_)
    have hz := ofI (l := [0]) hok (by decide)
    clear hok
    ((refine Tr.guard_l rfl rfl rfl (by first | (with_reducible rfl) | (with_reducible assumption) | (with_reducible exact Bool.not_true) | (with_reducible exact Bool.not_false)) ?_))
    refine Exec.call0 rfl (rSameInts_fn N1 ([0] : List Int) _ _ _ _ (hcut2.mono RI.mono hm1) hz) rfl ?_
    rintro _ _ - ⟨rfl, rfl⟩
    repeat (first | ((with_reducible refine Tr.step rfl ?_); (first | ((with_reducible refine Knd.move ?_); (refine Exec.stab rfl (Stab.move rfl) rfl ?_)) | ((with_reducible refine Knd.pick ?_); ((refine Exec.stab rfl (Stab.pick_t rfl (by first | (with_reducible rfl) | (with_reducible assumption) | (with_reducible exact Bool.not_true) | (with_reducible exact Bool.not_false)) rfl) rfl ?_))))) | ((refine Tr.guard_l rfl rfl rfl (by first | (with_reducible rfl) | (with_reducible assumption) | (with_reducible exact Bool.not_true) | (with_reducible exact Bool.not_false)) ?_); (first | ((with_reducible refine Knd.move ?_); (refine Exec.stab rfl (Stab.move rfl) rfl ?_)) | ((with_reducible refine Knd.unOp ?_); ((refine Exec.stab rfl (Stab.not rfl) rfl ?_))) | ((with_reducible refine Knd.buildSlice ?_); ((refine Exec.buildSlice (tysOk.get rfl) rfl (tysOk.get rfl) rfl rfl rfl rfl rfl (by repeat (first | exact BuildP.nil | ((apply BuildP.one); (rfl); (rfl); (first | rfl | assumption); (repeat (first | exact SetL.z | apply SetL.s))))) rfl (fun b => ?_)))))))
    refine Tr.publish (r := box _ 3 _) (by repeat (first | exact Del.here | apply Del.there)) (fun N2 hm2 hok => ?_)
    have hz := ofI (l := [0, 1]) hok (by decide)
    clear hok
    ((refine Tr.guard_l rfl rfl rfl (by first | (with_reducible rfl) | (with_reducible assumption) | (with_reducible exact Bool.not_true) | (with_reducible exact Bool.not_false)) ?_))
    refine Exec.call0 rfl (rSameInts_fn N2 ([0, 1] : List Int) _ _ _ _ (hcut3.mono RI.mono (hm1.trans hm2)) hz) rfl ?_
    rintro _ _ - ⟨rfl, rfl⟩
    repeat (first | ((with_reducible refine Tr.step rfl ?_); (first | ((with_reducible refine Knd.move ?_); (refine Exec.stab rfl (Stab.move rfl) rfl ?_)) | ((with_reducible refine Knd.pick ?_); ((refine Exec.stab rfl (Stab.pick_t rfl (by first | (with_reducible rfl) | (with_reducible assumption) | (with_reducible exact Bool.not_true) | (with_reducible exact Bool.not_false)) rfl) rfl ?_))))) | ((refine Tr.guard_l rfl rfl rfl (by first | (with_reducible rfl) | (with_reducible assumption) | (with_reducible exact Bool.not_true) | (with_reducible exact Bool.not_false)) ?_); (first | ((with_reducible refine Knd.move ?_); (refine Exec.stab rfl (Stab.move rfl) rfl ?_)) | ((with_reducible refine Knd.buildSlice ?_); ((refine Exec.buildSlice (tysOk.get rfl) rfl (tysOk.get rfl) rfl rfl rfl rfl rfl (by repeat (first | exact BuildP.nil | ((apply BuildP.one); (rfl); (rfl); (first | rfl | assumption); (repeat (first | exact SetL.z | apply SetL.s))))) rfl (fun b => ?_)))))))
    refine Tr.publish (r := box _ 3 _) (by repeat (first | exact Del.here | apply Del.there)) (fun N3 hm3 hok => ?_)
    have hz2 := ofI (l := [1]) hok (by decide)
    clear hok
    refine Tr.publish (r := box _ 3 _) (by repeat (first | exact Del.here | apply Del.there)) (fun N4 hm4 hok => ?_)
    have hz1 := ofI (l := [2]) hok (by decide)
    clear hok
    refine Tr.publish (r := box _ 23 _) (by repeat (first | exact Del.here | apply Del.there)) (fun N5 hm5 hok => ?_)
    have hz := ofA2 (x := [2]) (y := [1]) hok (hz1.mono RI.mono hm5) (hz2.mono RI.mono (hm4.trans hm5))
    clear hok
    ((refine Tr.guard_l rfl rfl rfl (by first | (with_reducible rfl) | (with_reducible assumption) | (with_reducible exact Bool.not_true) | (with_reducible exact Bool.not_false)) ?_))
    refine Exec.call0 rfl (rSame_fn N5 ([[2], [1]] : List (List Int)) _ _ _ _ (ham4.mono RRowI.mono (hm1.trans (hm2.trans (hm3.trans (hm4.trans hm5))))) hz) rfl ?_
    rintro _ _ - ⟨rfl, rfl⟩
    repeat (first | ((with_reducible refine Tr.step rfl ?_); (first | ((with_reducible refine Knd.move ?_); (refine Exec.stab rfl (Stab.move rfl) rfl ?_)) | ((with_reducible refine Knd.pick ?_); ((refine Exec.stab rfl (Stab.pick_t rfl (by first | (with_reducible rfl) | (with_reducible assumption) | (with_reducible exact Bool.not_true) | (with_reducible exact Bool.not_false)) rfl) rfl ?_))))) | ((refine Tr.guard_l rfl rfl rfl (by first | (with_reducible rfl) | (with_reducible assumption) | (with_reducible exact Bool.not_true) | (with_reducible exact Bool.not_false)) ?_); (first | ((with_reducible refine Knd.move ?_); (refine Exec.stab rfl (Stab.move rfl) rfl ?_)) | ((with_reducible refine Knd.buildSlice ?_); ((refine Exec.buildSlice (tysOk.get rfl) rfl (tysOk.get rfl) rfl rfl rfl rfl rfl (by repeat (first | exact BuildP.nil | ((apply BuildP.one); (rfl); (rfl); (first | rfl | assumption); (repeat (first | exact SetL.z | apply SetL.s))))) rfl (fun b => ?_)))))))
    refine Tr.publish (r := box _ 3 _) (by repeat (first | exact Del.here | apply Del.there)) (fun N6 hm6 hok => ?_)
    have hz2 := ofI (l := [1, 0]) hok (by decide)
    clear hok
    refine Tr.publish (r := box _ 3 _) (by repeat (first | exact Del.here | apply Del.there)) (fun N7 hm7 hok => ?_)
    have hz1 := ofI (l := [1, 2]) hok (by decide)
    clear hok
    refine Tr.publish (r := box _ 23 _) (by repeat (first | exact Del.here | apply Del.there)) (fun N8 hm8 hok => ?_)
    have hz := ofA2 (x := [1, 2]) (y := [1, 0]) hok (hz1.mono RI.mono hm8) (hz2.mono RI.mono (hm7.trans hm8))
    clear hok
    ((refine Tr.guard_l rfl rfl rfl (by first | (with_reducible rfl) | (with_reducible assumption) | (with_reducible exact Bool.not_true) | (with_reducible exact Bool.not_false)) ?_))
    refine Exec.call0 rfl (rSame_fn N8 ([[1, 2], [1, 0]] : List (List Int)) _ _ _ _ (ham5.mono RRowI.mono (hm1.trans (hm2.trans (hm3.trans (hm4.trans (hm5.trans (hm6.trans (hm7.trans hm8)))))))) hz) rfl ?_
    rintro _ _ - ⟨rfl, rfl⟩
    repeat (first | ((with_reducible refine Tr.step rfl ?_); (first | ((with_reducible refine Knd.move ?_); (refine Exec.stab rfl (Stab.move rfl) rfl ?_)) | ((with_reducible refine Knd.pick ?_); ((refine Exec.stab rfl (Stab.pick_t rfl (by first | (with_reducible rfl) | (with_reducible assumption) | (with_reducible exact Bool.not_true) | (with_reducible exact Bool.not_false)) rfl) rfl ?_))))) | ((refine Tr.guard_l rfl rfl rfl (by first | (with_reducible rfl) | (with_reducible assumption) | (with_reducible exact Bool.not_true) | (with_reducible exact Bool.not_false)) ?_); (first | ((with_reducible refine Knd.move ?_); (refine Exec.stab rfl (Stab.move rfl) rfl ?_)) | ((with_reducible refine Knd.buildSlice ?_); ((refine Exec.buildSlice (tysOk.get rfl) rfl (tysOk.get rfl) rfl rfl rfl rfl rfl (by repeat (first | exact BuildP.nil | ((apply BuildP.one); (rfl); (rfl); (first | rfl | assumption); (repeat (first | exact SetL.z | apply SetL.s))))) rfl (fun b => ?_)))))))
    refine Tr.publish (r := box _ 3 _) (by repeat (first | exact Del.here | apply Del.there)) (fun N9 hm9 hok => ?_)
    have hz := ofI (l := [0]) hok (by decide)
    clear hok
    ((refine Tr.guard_l rfl rfl rfl (by first | (with_reducible rfl) | (with_reducible assumption) | (with_reducible exact Bool.not_true) | (with_reducible exact Bool.not_false)) ?_))
    refine Exec.call0 rfl (rSameInts_fn N9 ([0] : List Int) _ _ _ _ (hcut6.mono RI.mono (hm1.trans (hm2.trans (hm3.trans (hm4.trans (hm5.trans (hm6.trans (hm7.trans (hm8.trans hm9))))))))) hz) rfl ?_
    rintro _ _ - ⟨rfl, rfl⟩
    repeat (first | ((with_reducible refine Tr.step rfl ?_); (first | ((with_reducible refine Knd.move ?_); (refine Exec.stab rfl (Stab.move rfl) rfl ?_)) | ((with_reducible refine Knd.assign ?_); (refine Exec.stab rfl (Stab.assign rfl) rfl ?_)) | ((with_reducible refine Knd.pick ?_); (first | (refine Exec.stab rfl (Stab.pick_t rfl (by first | (with_reducible rfl) | (with_reducible assumption) | (with_reducible exact Bool.not_true) | (with_reducible exact Bool.not_false)) rfl) rfl ?_) | (refine Exec.stab rfl (Stab.pick_td rfl (by first | (with_reducible assumption) | (with_reducible rfl) | (with_reducible exact (not_not_intro rfl)) | omega) rfl) rfl ?_))))) | (with_reducible refine Tr.nil ?_) | ((refine Tr.guard_l rfl rfl rfl (by first | (with_reducible rfl) | (with_reducible assumption) | (with_reducible exact Bool.not_true) | (with_reducible exact Bool.not_false)) ?_); (first | ((with_reducible refine Knd.move ?_); (refine Exec.stab rfl (Stab.move rfl) rfl ?_)) | ((with_reducible refine Knd.binOp ?_); ((refine Exec.stab rfl (Stab.int rfl rfl rfl) rfl ?_))) | ((with_reducible refine Knd.unOp ?_); ((refine Exec.stab rfl (Stab.not rfl) rfl ?_))))) | ((refine Tr.guard_y rfl rfl rfl (by first | (with_reducible assumption) | (with_reducible rfl) | (with_reducible exact (not_not_intro rfl)) | omega) ?_); (((with_reducible refine Knd.move ?_); (refine Exec.stab rfl (Stab.move rfl) rfl ?_)))))
    refine Tr.land N9 (hm1.trans (hm2.trans (hm3.trans (hm4.trans (hm5.trans (hm6.trans (hm7.trans (hm8.trans hm9)))))))) (holds_sub (by repeat (first | exact SubFr.nil | refine SubFr.cons rfl ?_)) (by repeat (first | exact DropL.refl | apply DropL.skip)))
  repeat (first | (with_reducible refine Tr.next ?_) | (with_reducible refine Tr.ret ?_))
  have hfin := hg1.trans (hg2.trans (hg3.trans (hg4.trans (hg5.trans (hg6.trans (hg7.trans (hg8.trans (hg9.trans (hg10.trans (hg11.trans (hg12.trans hy)))))))))))
  (refine Tr.done (by first | exact .inl rfl | exact .inr rfl) rfl (by repeat (first | exact RVs.nil | (apply RVs.cons; (exact RV.tmp rfl)))) (by first | exact Mem.le.refl _ | assumption) (by exact ⟨[], rfl⟩) ⟨rfl, ?_⟩)
  rfl
end Go.Proofs.Ytmioocddmlfboaa
/-
  Matching: the contract of copyRows; rows of truth values that are owned, lent.
  Conditions: none.
-/
namespace Go.Proofs.Ytmioocddmlfboaa
open Go Bf
attribute [local irreducible] Tr Exec Stab HasTy Go.Addr.add IntKind.wrap
/-- a row of truth values that is owned -/
abbrev RowC := Option Addr × Nat × List Bool
def rowC (x : RowC) : Res := ownS 4 1 x.1 x.2.2.length x.2.1 (boV x.2.2)
def ptrC (l : List RowC) : List Value := l.map fun x => .slice x.1 x.2.2.length x.2.1
theorem ptrC_append (a b : List RowC) : ptrC (a ++ b) = ptrC a ++ ptrC b := by simp [ptrC]
@[simp] theorem ptrC_length (a : List RowC) : (ptrC a).length = a.length := by simp [ptrC]
theorem ptrC_one (l : List RowC) : ∀ u ∈ ptrC l, u.oneCell' = true := by
  intro u hu
  obtain ⟨x, _, rfl⟩ := List.mem_map.1 hu
  rfl
theorem boV_one (l : List Bool) : ∀ u ∈ boV l, u.oneCell' = true := by
  intro u hu
  obtain ⟨x, _, rfl⟩ := List.mem_map.1 hu
  rfl
theorem boV_elems (M : Mem) (l : List Bool) : Elems 1 RBo M (boV l) l := by
  refine ⟨by simp, fun i x hx => ?_⟩
  show _ = _
  rw [Nat.mul_one, List.take_one, List.head?_drop, boV_get hx]
  rfl
theorem boV_cells {M : Mem} {cells : List Value} {l : List Bool} (h : Elems 1 RBo M cells l) : cells = boV l := by
  apply List.ext_getElem?
  intro i
  have hl := h.1
  rw [Nat.mul_one] at hl
  by_cases hi : i < l.length
  · have := h.2 i l[i] (by simp [hi])
    have e : cells[i]? = some (.bool l[i]) := by
      have : (cells.drop (i * 1)).take 1 = [.bool l[i]] := this
      rw [Nat.mul_one, List.take_one, List.head?_drop] at this
      cases hc : cells[i]? with
      | none => rw [hc] at this; cases this
      | some v => rw [hc] at this; simp at this; rw [this]
    rw [e, boV_get (x := l[i]) (by simp [hi])]
  · rw [List.getElem?_eq_none (by omega), List.getElem?_eq_none (by simp; omega)]
theorem Bools.row {M : Mem} {A : Option Addr} {n c : Nat} {l : List Bool} (h : Bools M (.slice A n c) l) : Row M A l.length 1 (boV l) ∧ l.length ≤ c ∧ c ≤ 9223372036854775807 ∧ (A = none → l.length = 0) := by
  obtain ⟨cells, h1, h2, h3, h4, hr, he⟩ := h.cells
  exact ⟨boV_cells he ▸ hr, h2, h3, h4⟩
theorem rowsC_fits {M : Mem} {B : Option Addr} {k : Nat} {cs : List RowC} (h : (ownS 43 1 B cs.length k (ptrC cs)).ok M) (hk : k ≤ 9223372036854775807) (hm : (many (cs.map rowC)).ok M) (hc : ∀ x ∈ cs, x.2.1 ≤ 9223372036854775807) : Fits2 M (.slice B (cs.map (·.2.2)).length k) (cs.map (·.2.2)) := by
  refine SlOf.ofOwn h (by simp) hk ⟨by simp, fun i x hx => ?_⟩
  rw [List.getElem?_map] at hx
  cases hi : cs[i]? with
  | none => rw [hi] at hx; cases hx
  | some y =>
    rw [hi] at hx
    simp at hx
    subst hx
    have hy := List.mem_of_getElem? hi
    have hok : (rowC y).ok M := hm _ (List.mem_map_of_mem hy)
    refine ⟨y.1, y.2.1, ?_, SlOf.ofOwn hok rfl (hc y hy) (boV_elems M _)⟩
    rw [Nat.mul_one, List.take_one, List.head?_drop]
    simp [ptrC, hi]
set_option maxHeartbeats 4000000 in
theorem copyRows_fn (M : Mem) (A : Option Addr) (c : Nat) (l : List (List Bool)) (hl : Fits2 M (.slice A l.length c) l) (hs : l.length ≤ 64) (hr : ∀ r ∈ l, r.length ≤ 64) :
    Bf.Fn Try.prog 36 [.slice A l.length c] M [] (fun r M' A' => ∃ B k cs, r = .slice B l.length k ∧ k ≤ 9223372036854775807 ∧ cs.map (·.2.2) = l ∧ (∀ x ∈ cs, x.2.1 ≤ 9223372036854775807) ∧ M = M' ∧ A' = [ownS 43 1 B l.length k (ptrC cs), many (cs.map rowC)]) := by
  refine Fn.intro Try.func36 rfl rfl Try.ntmps36 rfl fun E F => ?_
  repeat (first | ((with_reducible refine Tr.step rfl ?_); (first | ((with_reducible refine Knd.assign ?_); (refine Exec.stab rfl (Stab.assign rfl) rfl ?_)) | ((with_reducible refine Knd.buildSlice ?_); ((refine Exec.buildSlice (tysOk.get rfl) rfl (tysOk.get rfl) rfl rfl rfl rfl rfl (by repeat (exact BuildP.nil)) rfl (fun b => ?_)))))) | (with_reducible refine Tr.next ?_) | (with_reducible refine Tr.seq ?_) | (with_reducible refine Tr.region ?_) | (with_reducible refine Tr.nil ?_) | (with_reducible refine Tr.block ?_))
  refine Tr.box_own 1 0 (by repeat (first | exact Upd.here | apply Upd.there)) rfl (by intro u hu; cases hu) (by simp [maxLen]) ?_
  refine Tr.many_new ?_
  refine Tr.loop (α := Nat × Option Addr × Nat × List RowC) (fun y => ⟨22, [(4, .int .i64 (y.1 : Int)), (3, .slice y.2.1 y.1 y.2.2.1), (0, .slice A l.length c)], [], M, many (y.2.2.2.map rowC) :: ownS 43 1 y.2.1 y.1 y.2.2.1 (ptrC y.2.2.2) :: ([] ++ F)⟩)
    (fun y => y.1 ≤ l.length ∧ y.2.2.1 ≤ 9223372036854775807 ∧ y.2.2.2.map (·.2.2) = l.take y.1 ∧ ∀ x ∈ y.2.2.2, x.2.1 ≤ 9223372036854775807) (fun y => l.length - y.1) (0, _, 0, []) ⟨Nat.zero_le _, by simp, rfl, by simp⟩ (holds_sub (by repeat (first | exact SubFr.nil | refine SubFr.cons rfl ?_)) (by repeat (first | exact DropL.refl | apply DropL.skip))) (fun y hy => ?_)
  obtain ⟨i, B, k, cs⟩ := y
  obtain ⟨hi, hk, hcs, hcap⟩ := hy
  simp only at hi hk hcs hcap
  dsimp only
  have hcl : cs.length = i := by
    have := congrArg List.length hcs
    simpa [Nat.min_eq_left hi] using this
  by_cases hin : i < l.length
  rotate_left
  · have ei : i = l.length := by omega
    subst ei
    rw [List.take_length] at hcs
    repeat (first | ((with_reducible refine Tr.step rfl ?_); (first | ((with_reducible refine Knd.move ?_); (refine Exec.stab rfl (Stab.move rfl) rfl ?_)) | ((with_reducible refine Knd.assign ?_); (refine Exec.stab rfl (Stab.assign rfl) rfl ?_)) | ((with_reducible refine Knd.len ?_); ((refine Exec.stab rfl (Stab.len rfl (tysOk.get rfl) rfl) rfl ?_))) | ((with_reducible refine Knd.binOp ?_); ((refine Exec.stab rfl (Stab.int rfl rfl rfl) rfl ?_))))) | (with_reducible refine Tr.next ?_) | (with_reducible refine Tr.seq ?_) | (with_reducible refine Tr.region ?_) | (with_reducible refine Tr.nil ?_) | (with_reducible refine Tr.exit ?_) | (with_reducible refine Tr.ret ?_) | (with_reducible refine Tr.then_exit ?_) | ((with_reducible refine Tr.in_exit ?_ ?_); (exact rfl)) | (refine Tr.cond_f rfl (by first | (with_reducible assumption) | (with_reducible rfl) | (with_reducible exact (not_not_intro rfl)) | omega) ?_))
    refine Tr.front (x := ownS 43 1 _ _ _ _) (by repeat (first | exact Del.here | apply Del.there)) ?_
    refine Tr.doneA (A' := [ownS 43 1 B l.length k (ptrC cs), many (cs.map rowC)]) (by first | exact .inl rfl | exact .inr rfl) rfl (by repeat (first | exact RVs.nil | (apply RVs.cons; (exact RV.tmp rfl)))) (Mem.le.refl _) ⟨fun _ h => h, fun h => h⟩ ⟨B, k, cs, rfl, hk, hcs, hcap, rfl, rfl⟩
  obtain ⟨r, hr1⟩ := get_of_lt hin
  have hrl := hr r (List.mem_of_getElem? hr1)
  obtain ⟨hA, ch, hat, rB, rk, rfl, hB⟩ := hl.elem hr1
  have hBr := Bools.row hB
  repeat (first | ((with_reducible refine Tr.step rfl ?_); (first | ((with_reducible refine Knd.move ?_); (refine Exec.stab rfl (Stab.move rfl) rfl ?_)) | ((with_reducible refine Knd.load ?_); ((refine Exec.stab rfl (Stab.loadM rfl (tysOk.get rfl) rfl (by assumption)) rfl ?_))) | ((with_reducible refine Knd.len ?_); ((refine Exec.stab rfl (Stab.len rfl (tysOk.get rfl) rfl) rfl ?_))) | ((with_reducible refine Knd.binOp ?_); ((refine Exec.stab rfl (Stab.int rfl rfl rfl) rfl ?_))) | ((with_reducible refine Knd.indexAddr ?_); ((refine Exec.stab rfl (Stab.indexAddr rfl rfl (tysOk.get rfl) rfl (tysOk.get rfl) rfl (by omega) (by omega) (by first | rfl | assumption)) rfl ?_))) | ((with_reducible refine Knd.buildSlice ?_); ((refine Exec.buildSlice (tysOk.get rfl) rfl (tysOk.get rfl) rfl rfl rfl rfl rfl (by repeat (exact BuildP.nil)) rfl (fun b => ?_)))))) | (with_reducible refine Tr.next ?_) | (with_reducible refine Tr.seq ?_) | (with_reducible refine Tr.region ?_) | (with_reducible refine Tr.nil ?_) | (with_reducible refine Tr.skip ?_) | (with_reducible refine Tr.block ?_) | (refine Tr.cond_t rfl (by first | (with_reducible assumption) | (with_reducible rfl) | (with_reducible exact (not_not_intro rfl)) | omega) ?_))
  refine Tr.box_own (e := 4) 1 0 (by repeat (first | exact Upd.here | apply Upd.there)) rfl (by intro u hu; cases hu) (by simp [maxLen]) ?_
  ((refine Tr.step rfl ?_))
  refine Exec.append (news := boV r) rfl rfl (tysOk.get rfl) rfl (tysOk.get rfl) rfl rfl rfl rfl (by repeat (first | exact Del.here | apply Del.there)) (Src.row hBr.1) (by simp) (boV_one _) (by omega) (by omega) rfl (fun A6 c6 hc6 => ?_)
  rw [zeros0_app, Nat.zero_add]
  refine Tr.many_add ?_
  rw [show cs.map rowC ++ [ownS 4 1 A6 r.length c6 (boV r)] = (cs ++ [(A6, c6, r)]).map rowC by simp [rowC]]
  repeat (((with_reducible refine Tr.step rfl ?_); (((with_reducible refine Knd.buildSlice ?_); ((refine Exec.buildSlice (tysOk.get rfl) rfl (tysOk.get rfl) rfl rfl rfl rfl rfl (by repeat (first | exact BuildP.nil | ((apply BuildP.one); (rfl); (rfl); (first | rfl | assumption); (repeat (first | exact SetL.z | apply SetL.s))))) rfl (fun b => ?_)))))))
  refine Tr.cells (cs' := ptrC [(A6, c6, r)]) (by repeat (first | exact Upd.here | apply Upd.there)) rfl ?_
  ((refine Tr.step rfl ?_))
  refine Exec.append (news := ptrC [(A6, c6, r)]) rfl rfl (tysOk.get rfl) rfl (tysOk.get rfl) rfl rfl rfl rfl (by repeat (first | exact Del.here | apply Del.there)) (Src.box (by repeat (first | exact Has.here | apply Has.there))) rfl (ptrC_one _) (by omega) (by omega) rfl (fun A7 c7 hc7 => ?_)
  rw [← ptrC_append]
  repeat (first | ((with_reducible refine Tr.step rfl ?_); (first | ((with_reducible refine Knd.move ?_); (refine Exec.stab rfl (Stab.move rfl) rfl ?_)) | ((with_reducible refine Knd.assign ?_); (refine Exec.stab rfl (Stab.assign rfl) rfl ?_)) | ((with_reducible refine Knd.binOp ?_); ((refine Exec.stab rfl (Stab.addi rfl rfl (by omega)) rfl ?_))))) | (with_reducible refine Tr.next ?_) | (with_reducible refine Tr.region ?_) | (with_reducible refine Tr.nil ?_) | (with_reducible refine Tr.in_normal ?_))
  refine Tr.give (r := box _ 43 _) (by repeat (first | exact Del.here | apply Del.there)) ?_
  refine Tr.front (x := many _) (by repeat (first | exact Del.here | apply Del.there)) ?_
  refine Tr.again (i + 1, A7, c7, cs ++ [(A6, c6, r)]) ⟨by simp only; omega, hc7, by simp [hcs, List.take_add_one, hr1], fun x hx => ?_⟩ (by simp only; omega) (holds_sub (by repeat (first | exact SubFr.nil | refine SubFr.cons rfl ?_)) (by repeat (first | exact DropL.refl | apply DropL.skip)))
  rcases List.mem_append.1 hx with hx | hx
  · exact hcap x hx
  · simp at hx; subst hx; exact hc6
end Go.Proofs.Ytmioocddmlfboaa
/-
  Matching: the law MatchingMore walked.
  Conditions: none.
-/
namespace Go.Proofs.Ytmioocddmlfboaa
open Go Bf
attribute [local irreducible] Tr Exec Stab HasTy Go.Addr.add IntKind.wrap
/-- a request alone is left out -/
def outK (k q : Nat) : Bool := decide (q = k)
theorem copyI (x : Int) (l : List Int) : intV l ++ [.int .i64 x] = intV (l ++ [x]) := by simp [intV]
set_option maxHeartbeats 16000000 in
set_option maxRecDepth 20000 in
theorem more_fn (M : Mem) (A0 A1 A2 A6 : Option Addr) (c0 c1 c2 c6 : Nat) (fits : List (List Bool)) (sup need : List Int) (s r : Nat) (more : Int) (row : List Bool) (hf : Fits2 M (.slice A0 fits.length c0) fits) (hs : Ints M (.slice A1 sup.length c1) sup) (hn : Ints M (.slice A2 need.length c2) need) (hrow : Bools M (.slice A6 row.length c6) row) (rs : I64s sup) (rn : I64s need) (hs8 : s < 256) (hr8 : r < 256) (hmore : -9223372036854775808 ≤ more ∧ more ≤ 9223372036854775807) :
    Fn0 Try.prog 7 [.slice A0 fits.length c0, .slice A1 sup.length c1, .slice A2 need.length c2, .int .u8 (s : Int), .int .u8 (r : Int), .int .i64 more, .slice A6 row.length c6] M (fun x _ => x = .bool true) := by
  have l0 := hf.len_le
  have l1 := hs.len_le
  have l2 := hn.len_le
  have l6 := hrow.len_le
  refine Fn.intro Try.func7 rfl rfl Try.ntmps7 rfl fun E F => ?_
  repeat (first | ((with_reducible refine Tr.step rfl ?_); (((with_reducible refine Knd.assign ?_); (refine Exec.stab rfl (Stab.assign rfl) rfl ?_)))) | (with_reducible refine Tr.next ?_) | (with_reducible refine Tr.seq ?_) | (with_reducible refine Tr.region ?_) | (with_reducible refine Tr.nil ?_))
  ((refine Tr.step rfl ?_)); refine Exec.call0 rfl (sane_fn M) rfl ?_
  rintro _ M1 hm1 rfl
  by_cases g1 : 16 < fits.length
  · repeat (first | ((with_reducible refine Tr.step rfl ?_); (first | ((with_reducible refine Knd.move ?_); (refine Exec.stab rfl (Stab.move rfl) rfl ?_)) | ((with_reducible refine Knd.assign ?_); (refine Exec.stab rfl (Stab.assign rfl) rfl ?_)) | ((with_reducible refine Knd.len ?_); ((refine Exec.stab rfl (Stab.len rfl (tysOk.get rfl) rfl) rfl ?_))) | ((with_reducible refine Knd.binOp ?_); ((refine Exec.stab rfl (Stab.int rfl rfl rfl) rfl ?_))) | ((with_reducible refine Knd.pick ?_); (first | (refine Exec.stab rfl (Stab.pick_t rfl (by first | (with_reducible rfl) | (with_reducible assumption) | (with_reducible exact Bool.not_true) | (with_reducible exact Bool.not_false)) rfl) rfl ?_) | (refine Exec.stab rfl (Stab.pick_td rfl (by first | (with_reducible assumption) | (with_reducible rfl) | (with_reducible exact (not_not_intro rfl)) | omega) rfl) rfl ?_))) | ((with_reducible refine Knd.unOp ?_); ((refine Exec.stab rfl (Stab.not rfl) rfl ?_))))) | (with_reducible refine Tr.next ?_) | (with_reducible refine Tr.seq ?_) | (with_reducible refine Tr.region ?_) | (with_reducible refine Tr.nil ?_) | (refine Tr.guard_s0 rfl rfl rfl (by first | (with_reducible rfl) | (with_reducible assumption) | (with_reducible exact Bool.not_true) | (with_reducible exact Bool.not_false)) rfl rfl ?_) | (refine Tr.guard_n' rfl rfl rfl (by first | (with_reducible assumption) | (with_reducible rfl) | (with_reducible exact (not_not_intro rfl)) | omega) rfl rfl ?_) | (with_reducible refine Tr.skip ?_) | (with_reducible refine Tr.ret ?_) | (with_reducible refine Tr.then_ret ?_) | (refine Tr.cond_bt rfl (by first | (with_reducible rfl) | (with_reducible assumption) | (with_reducible exact Bool.not_true) | (with_reducible exact Bool.not_false)) ?_) | (refine Tr.cond_bf rfl (by first | (with_reducible rfl) | (with_reducible assumption) | (with_reducible exact Bool.not_true) | (with_reducible exact Bool.not_false)) ?_))
    (refine Tr.done (by first | exact .inl rfl | exact .inr rfl) rfl (by repeat (first | exact RVs.nil | (apply RVs.cons; (exact RV.tmp rfl)))) (by first | exact Mem.le.refl _ | assumption) (by exact ⟨[], rfl⟩) ⟨rfl, ?_⟩)
    rfl
  by_cases g2 : 16 < need.length
  · repeat (first | ((with_reducible refine Tr.step rfl ?_); (first | ((with_reducible refine Knd.move ?_); (refine Exec.stab rfl (Stab.move rfl) rfl ?_)) | ((with_reducible refine Knd.assign ?_); (refine Exec.stab rfl (Stab.assign rfl) rfl ?_)) | ((with_reducible refine Knd.len ?_); ((refine Exec.stab rfl (Stab.len rfl (tysOk.get rfl) rfl) rfl ?_))) | ((with_reducible refine Knd.binOp ?_); ((refine Exec.stab rfl (Stab.int rfl rfl rfl) rfl ?_))) | ((with_reducible refine Knd.pick ?_); (first | (refine Exec.stab rfl (Stab.pick_t rfl (by first | (with_reducible rfl) | (with_reducible assumption) | (with_reducible exact Bool.not_true) | (with_reducible exact Bool.not_false)) rfl) rfl ?_) | (refine Exec.stab rfl (Stab.pick_td rfl (by first | (with_reducible assumption) | (with_reducible rfl) | (with_reducible exact (not_not_intro rfl)) | omega) rfl) rfl ?_) | (refine Exec.stab rfl (Stab.pick_fd rfl (by first | (with_reducible assumption) | (with_reducible rfl) | (with_reducible exact (not_not_intro rfl)) | omega) rfl) rfl ?_))) | ((with_reducible refine Knd.unOp ?_); ((refine Exec.stab rfl (Stab.not rfl) rfl ?_))))) | (with_reducible refine Tr.next ?_) | (with_reducible refine Tr.seq ?_) | (with_reducible refine Tr.region ?_) | (with_reducible refine Tr.nil ?_) | (refine Tr.guard_s0 rfl rfl rfl (by first | (with_reducible rfl) | (with_reducible assumption) | (with_reducible exact Bool.not_true) | (with_reducible exact Bool.not_false)) rfl rfl ?_) | ((refine Tr.guard_y' rfl rfl rfl (by first | (with_reducible assumption) | (with_reducible rfl) | (with_reducible exact (not_not_intro rfl)) | omega) ?_); (first | ((with_reducible refine Knd.move ?_); (refine Exec.stab rfl (Stab.move rfl) rfl ?_)) | ((with_reducible refine Knd.len ?_); ((refine Exec.stab rfl (Stab.len rfl (tysOk.get rfl) rfl) rfl ?_))) | ((with_reducible refine Knd.binOp ?_); ((refine Exec.stab rfl (Stab.int rfl rfl rfl) rfl ?_))))) | (refine Tr.guard_n' rfl rfl rfl (by first | (with_reducible assumption) | (with_reducible rfl) | (with_reducible exact (not_not_intro rfl)) | omega) rfl rfl ?_) | (with_reducible refine Tr.skip ?_) | (with_reducible refine Tr.ret ?_) | (with_reducible refine Tr.then_ret ?_) | (refine Tr.cond_bt rfl (by first | (with_reducible rfl) | (with_reducible assumption) | (with_reducible exact Bool.not_true) | (with_reducible exact Bool.not_false)) ?_) | (refine Tr.cond_bf rfl (by first | (with_reducible rfl) | (with_reducible assumption) | (with_reducible exact Bool.not_true) | (with_reducible exact Bool.not_false)) ?_))
    (refine Tr.done (by first | exact .inl rfl | exact .inr rfl) rfl (by repeat (first | exact RVs.nil | (apply RVs.cons; (exact RV.tmp rfl)))) (by first | exact Mem.le.refl _ | assumption) (by exact ⟨[], rfl⟩) ⟨rfl, ?_⟩)
    rfl
  by_cases g3 : sup.length = 0
  · have g3' : (sup.length : Int) = 0 := by omega
    repeat (first | ((with_reducible refine Tr.step rfl ?_); (first | ((with_reducible refine Knd.move ?_); (refine Exec.stab rfl (Stab.move rfl) rfl ?_)) | ((with_reducible refine Knd.assign ?_); (refine Exec.stab rfl (Stab.assign rfl) rfl ?_)) | ((with_reducible refine Knd.len ?_); ((refine Exec.stab rfl (Stab.len rfl (tysOk.get rfl) rfl) rfl ?_))) | ((with_reducible refine Knd.binOp ?_); ((refine Exec.stab rfl (Stab.int rfl rfl rfl) rfl ?_))) | ((with_reducible refine Knd.pick ?_); (first | (refine Exec.stab rfl (Stab.pick_t rfl (by first | (with_reducible rfl) | (with_reducible assumption) | (with_reducible exact Bool.not_true) | (with_reducible exact Bool.not_false)) rfl) rfl ?_) | (refine Exec.stab rfl (Stab.pick_td rfl (by first | (with_reducible assumption) | (with_reducible rfl) | (with_reducible exact (not_not_intro rfl)) | omega) rfl) rfl ?_) | (refine Exec.stab rfl (Stab.pick_fd rfl (by first | (with_reducible assumption) | (with_reducible rfl) | (with_reducible exact (not_not_intro rfl)) | omega) rfl) rfl ?_))) | ((with_reducible refine Knd.unOp ?_); ((refine Exec.stab rfl (Stab.not rfl) rfl ?_))))) | (with_reducible refine Tr.next ?_) | (with_reducible refine Tr.seq ?_) | (with_reducible refine Tr.region ?_) | (with_reducible refine Tr.nil ?_) | (refine Tr.guard_s0 rfl rfl rfl (by first | (with_reducible rfl) | (with_reducible assumption) | (with_reducible exact Bool.not_true) | (with_reducible exact Bool.not_false)) rfl rfl ?_) | ((refine Tr.guard_y' rfl rfl rfl (by first | (with_reducible assumption) | (with_reducible rfl) | (with_reducible exact (not_not_intro rfl)) | omega) ?_); (first | ((with_reducible refine Knd.move ?_); (refine Exec.stab rfl (Stab.move rfl) rfl ?_)) | ((with_reducible refine Knd.len ?_); ((refine Exec.stab rfl (Stab.len rfl (tysOk.get rfl) rfl) rfl ?_))) | ((with_reducible refine Knd.binOp ?_); ((refine Exec.stab rfl (Stab.int rfl rfl rfl) rfl ?_))))) | (refine Tr.guard_n' rfl rfl rfl (by first | (with_reducible assumption) | (with_reducible rfl) | (with_reducible exact (not_not_intro rfl)) | omega) rfl rfl ?_) | (with_reducible refine Tr.skip ?_) | (with_reducible refine Tr.ret ?_) | (with_reducible refine Tr.then_ret ?_) | (refine Tr.cond_bt rfl (by first | (with_reducible rfl) | (with_reducible assumption) | (with_reducible exact Bool.not_true) | (with_reducible exact Bool.not_false)) ?_) | (refine Tr.cond_bf rfl (by first | (with_reducible rfl) | (with_reducible assumption) | (with_reducible exact Bool.not_true) | (with_reducible exact Bool.not_false)) ?_))
    (refine Tr.done (by first | exact .inl rfl | exact .inr rfl) rfl (by repeat (first | exact RVs.nil | (apply RVs.cons; (exact RV.tmp rfl)))) (by first | exact Mem.le.refl _ | assumption) (by exact ⟨[], rfl⟩) ⟨rfl, ?_⟩)
    rfl
  by_cases g4 : need.length = 0
  · have g4' : (need.length : Int) = 0 := by omega
    repeat (first | ((with_reducible refine Tr.step rfl ?_); (first | ((with_reducible refine Knd.move ?_); (refine Exec.stab rfl (Stab.move rfl) rfl ?_)) | ((with_reducible refine Knd.assign ?_); (refine Exec.stab rfl (Stab.assign rfl) rfl ?_)) | ((with_reducible refine Knd.len ?_); ((refine Exec.stab rfl (Stab.len rfl (tysOk.get rfl) rfl) rfl ?_))) | ((with_reducible refine Knd.binOp ?_); ((refine Exec.stab rfl (Stab.int rfl rfl rfl) rfl ?_))) | ((with_reducible refine Knd.pick ?_); (first | (refine Exec.stab rfl (Stab.pick_td rfl (by first | (with_reducible assumption) | (with_reducible rfl) | (with_reducible exact (not_not_intro rfl)) | omega) rfl) rfl ?_) | (refine Exec.stab rfl (Stab.pick_fd rfl (by first | (with_reducible assumption) | (with_reducible rfl) | (with_reducible exact (not_not_intro rfl)) | omega) rfl) rfl ?_))) | ((with_reducible refine Knd.unOp ?_); ((refine Exec.stab rfl (Stab.not rfl) rfl ?_))))) | (with_reducible refine Tr.next ?_) | (with_reducible refine Tr.seq ?_) | (with_reducible refine Tr.region ?_) | (with_reducible refine Tr.nil ?_) | ((refine Tr.guard_y' rfl rfl rfl (by first | (with_reducible assumption) | (with_reducible rfl) | (with_reducible exact (not_not_intro rfl)) | omega) ?_); (first | ((with_reducible refine Knd.move ?_); (refine Exec.stab rfl (Stab.move rfl) rfl ?_)) | ((with_reducible refine Knd.len ?_); ((refine Exec.stab rfl (Stab.len rfl (tysOk.get rfl) rfl) rfl ?_))) | ((with_reducible refine Knd.binOp ?_); ((refine Exec.stab rfl (Stab.int rfl rfl rfl) rfl ?_))))) | (refine Tr.guard_n' rfl rfl rfl (by first | (with_reducible assumption) | (with_reducible rfl) | (with_reducible exact (not_not_intro rfl)) | omega) rfl rfl ?_) | (with_reducible refine Tr.skip ?_) | (with_reducible refine Tr.ret ?_) | (with_reducible refine Tr.then_ret ?_) | (refine Tr.cond_bt rfl (by first | (with_reducible rfl) | (with_reducible assumption) | (with_reducible exact Bool.not_true) | (with_reducible exact Bool.not_false)) ?_) | (refine Tr.cond_bf rfl (by first | (with_reducible rfl) | (with_reducible assumption) | (with_reducible exact Bool.not_true) | (with_reducible exact Bool.not_false)) ?_))
    (refine Tr.done (by first | exact .inl rfl | exact .inr rfl) rfl (by repeat (first | exact RVs.nil | (apply RVs.cons; (exact RV.tmp rfl)))) (by first | exact Mem.le.refl _ | assumption) (by exact ⟨[], rfl⟩) ⟨rfl, ?_⟩)
    rfl
  by_cases g5 : row.length = need.length
  rotate_left
  · repeat (first | ((with_reducible refine Tr.step rfl ?_); (first | ((with_reducible refine Knd.move ?_); (refine Exec.stab rfl (Stab.move rfl) rfl ?_)) | ((with_reducible refine Knd.assign ?_); (refine Exec.stab rfl (Stab.assign rfl) rfl ?_)) | ((with_reducible refine Knd.len ?_); ((refine Exec.stab rfl (Stab.len rfl (tysOk.get rfl) rfl) rfl ?_))) | ((with_reducible refine Knd.binOp ?_); ((refine Exec.stab rfl (Stab.int rfl rfl rfl) rfl ?_))) | ((with_reducible refine Knd.pick ?_); ((refine Exec.stab rfl (Stab.pick_fd rfl (by first | (with_reducible assumption) | (with_reducible rfl) | (with_reducible exact (not_not_intro rfl)) | omega) rfl) rfl ?_))) | ((with_reducible refine Knd.unOp ?_); ((refine Exec.stab rfl (Stab.not rfl) rfl ?_))))) | (with_reducible refine Tr.next ?_) | (with_reducible refine Tr.seq ?_) | (with_reducible refine Tr.region ?_) | (with_reducible refine Tr.nil ?_) | ((refine Tr.guard_y' rfl rfl rfl (by first | (with_reducible assumption) | (with_reducible rfl) | (with_reducible exact (not_not_intro rfl)) | omega) ?_); (first | ((with_reducible refine Knd.move ?_); (refine Exec.stab rfl (Stab.move rfl) rfl ?_)) | ((with_reducible refine Knd.len ?_); ((refine Exec.stab rfl (Stab.len rfl (tysOk.get rfl) rfl) rfl ?_))) | ((with_reducible refine Knd.binOp ?_); ((refine Exec.stab rfl (Stab.int rfl rfl rfl) rfl ?_))))) | (with_reducible refine Tr.skip ?_) | (with_reducible refine Tr.ret ?_) | (with_reducible refine Tr.then_ret ?_) | (refine Tr.cond_bf rfl (by first | (with_reducible rfl) | (with_reducible assumption) | (with_reducible exact Bool.not_true) | (with_reducible exact Bool.not_false)) ?_) | (refine Tr.cond_t rfl (by first | (with_reducible assumption) | (with_reducible rfl) | (with_reducible exact (not_not_intro rfl)) | omega) ?_))
    (refine Tr.done (by first | exact .inl rfl | exact .inr rfl) rfl (by repeat (first | exact RVs.nil | (apply RVs.cons; (exact RV.tmp rfl)))) (by first | exact Mem.le.refl _ | assumption) (by exact ⟨[], rfl⟩) ⟨rfl, ?_⟩)
    rfl
  repeat (first | ((with_reducible refine Tr.step rfl ?_); (first | ((with_reducible refine Knd.move ?_); (refine Exec.stab rfl (Stab.move rfl) rfl ?_)) | ((with_reducible refine Knd.len ?_); ((refine Exec.stab rfl (Stab.len rfl (tysOk.get rfl) rfl) rfl ?_))) | ((with_reducible refine Knd.binOp ?_); ((refine Exec.stab rfl (Stab.int rfl rfl rfl) rfl ?_))) | ((with_reducible refine Knd.pick ?_); ((refine Exec.stab rfl (Stab.pick_fd rfl (by first | (with_reducible assumption) | (with_reducible rfl) | (with_reducible exact (not_not_intro rfl)) | omega) rfl) rfl ?_))) | ((with_reducible refine Knd.unOp ?_); ((refine Exec.stab rfl (Stab.not rfl) rfl ?_))))) | (with_reducible refine Tr.next ?_) | (with_reducible refine Tr.seq ?_) | (with_reducible refine Tr.region ?_) | (with_reducible refine Tr.nil ?_) | ((refine Tr.guard_y' rfl rfl rfl (by first | (with_reducible assumption) | (with_reducible rfl) | (with_reducible exact (not_not_intro rfl)) | omega) ?_); (first | ((with_reducible refine Knd.move ?_); (refine Exec.stab rfl (Stab.move rfl) rfl ?_)) | ((with_reducible refine Knd.len ?_); ((refine Exec.stab rfl (Stab.len rfl (tysOk.get rfl) rfl) rfl ?_))) | ((with_reducible refine Knd.binOp ?_); ((refine Exec.stab rfl (Stab.int rfl rfl rfl) rfl ?_))))) | (with_reducible refine Tr.skip ?_) | (refine Tr.cond_bf rfl (by first | (with_reducible rfl) | (with_reducible assumption) | (with_reducible exact Bool.not_true) | (with_reducible exact Bool.not_false)) ?_) | (refine Tr.cond_f rfl (by first | (with_reducible assumption) | (with_reducible rfl) | (with_reducible exact (not_not_intro rfl)) | omega) ?_))
  ((refine Tr.step rfl ?_)); refine Exec.call0 rfl (flow_fn M1 A0 A1 A2 c0 c1 c2 fits sup need (hf.mono RRowB.mono hm1) (hs.mono RI.mono hm1) (hn.mono RI.mono hm1) rs rn) rfl ?_
  rintro r1 M2 hm2 hr1
  have hM2 := hm1.trans hm2
  rcases hr1 with ⟨-, rfl⟩ | ⟨-, -, B, k, rfl, -⟩ | ⟨hv, a, hmax, A, c, rfl, -⟩
  · repeat (first | ((with_reducible refine Tr.step rfl ?_); (first | ((with_reducible refine Knd.move ?_); (refine Exec.stab rfl (Stab.move rfl) rfl ?_)) | ((with_reducible refine Knd.assign ?_); (refine Exec.stab rfl (Stab.assign rfl) rfl ?_)) | ((with_reducible refine Knd.binOp ?_); ((refine Exec.stab rfl (Stab.int rfl rfl rfl) rfl ?_))) | ((with_reducible refine Knd.pick ?_); ((refine Exec.stab rfl (Stab.pick_td rfl (by first | (with_reducible assumption) | (with_reducible rfl) | (with_reducible exact (not_not_intro rfl)) | omega) rfl) rfl ?_))) | ((with_reducible refine Knd.extract ?_); (refine Exec.stab rfl (Stab.extract rfl rfl) rfl ?_)))) | (with_reducible refine Tr.next ?_) | (with_reducible refine Tr.seq ?_) | (with_reducible refine Tr.region ?_) | (with_reducible refine Tr.nil ?_) | (refine Tr.guard_n' rfl rfl rfl (by first | (with_reducible assumption) | (with_reducible rfl) | (with_reducible exact (not_not_intro rfl)) | omega) rfl rfl ?_) | (with_reducible refine Tr.ret ?_) | (with_reducible refine Tr.then_ret ?_) | (refine Tr.cond_bt rfl (by first | (with_reducible rfl) | (with_reducible assumption) | (with_reducible exact Bool.not_true) | (with_reducible exact Bool.not_false)) ?_))
    (refine Tr.done (by first | exact .inl rfl | exact .inr rfl) rfl (by repeat (first | exact RVs.nil | (apply RVs.cons; (exact RV.tmp rfl)))) (by first | exact Mem.le.refl _ | assumption) (by exact ⟨[], rfl⟩) ⟨rfl, ?_⟩)
    rfl
  · repeat (first | ((with_reducible refine Tr.step rfl ?_); (first | ((with_reducible refine Knd.move ?_); (refine Exec.stab rfl (Stab.move rfl) rfl ?_)) | ((with_reducible refine Knd.assign ?_); (refine Exec.stab rfl (Stab.assign rfl) rfl ?_)) | ((with_reducible refine Knd.binOp ?_); ((refine Exec.stab rfl (Stab.int rfl rfl rfl) rfl ?_))) | ((with_reducible refine Knd.pick ?_); ((refine Exec.stab rfl (Stab.pick_fd rfl (by first | (with_reducible assumption) | (with_reducible rfl) | (with_reducible exact (not_not_intro rfl)) | omega) rfl) rfl ?_))) | ((with_reducible refine Knd.extract ?_); (refine Exec.stab rfl (Stab.extract rfl rfl) rfl ?_)))) | (with_reducible refine Tr.next ?_) | (with_reducible refine Tr.seq ?_) | (with_reducible refine Tr.region ?_) | (with_reducible refine Tr.nil ?_) | ((refine Tr.guard_y' rfl rfl rfl (by first | (with_reducible assumption) | (with_reducible rfl) | (with_reducible exact (not_not_intro rfl)) | omega) ?_); (first | ((with_reducible refine Knd.move ?_); (refine Exec.stab rfl (Stab.move rfl) rfl ?_)) | ((with_reducible refine Knd.unOp ?_); ((refine Exec.stab rfl (Stab.not rfl) rfl ?_))))) | (with_reducible refine Tr.ret ?_) | (with_reducible refine Tr.then_ret ?_) | (refine Tr.cond_bt rfl (by first | (with_reducible rfl) | (with_reducible assumption) | (with_reducible exact Bool.not_true) | (with_reducible exact Bool.not_false)) ?_))
    (refine Tr.done (by first | exact .inl rfl | exact .inr rfl) rfl (by repeat (first | exact RVs.nil | (apply RVs.cons; (exact RV.tmp rfl)))) (by first | exact Mem.le.refl _ | assumption) (by exact ⟨[], rfl⟩) ⟨rfl, ?_⟩)
    rfl
  have hfe : Feas (pbOf fits sup need) := ⟨a, hmax.1⟩
  have v3 := hv.lf
  have hf2 : Fits2 M2 (.slice A0 fits.length c0) fits := hf.mono RRowB.mono hM2
  have hs2 : Ints M2 (.slice A1 sup.length c1) sup := hs.mono RI.mono hM2
  have hn2 : Ints M2 (.slice A2 need.length c2) need := hn.mono RI.mono hM2
  have hrow2 : Bools M2 (.slice A6 row.length c6) row := hrow.mono RBo.mono hM2
  obtain ⟨fcs, -, -, -, -, frow, fel⟩ := hf2.cells
  have fcl : fcs.length = fits.length := by simpa using fel.1
  have hil : s % sup.length < sup.length := Nat.mod_lt _ (by omega)
  have hkl : r % need.length < need.length := Nat.mod_lt _ (by omega)
  have eri : (s : Int) % (sup.length : Int) = ((s % sup.length : Nat) : Int) := by simp
  have erk : (r : Int) % (need.length : Int) = ((r % need.length : Nat) : Int) := by simp
  generalize s % sup.length = i at hil eri
  generalize r % need.length = k at hkl erk

  clear hmax
  repeat (first | ((with_reducible refine Tr.step rfl ?_); (first | ((with_reducible refine Knd.move ?_); (refine Exec.stab rfl (Stab.move rfl) rfl ?_)) | ((with_reducible refine Knd.assign ?_); (refine Exec.stab rfl (Stab.assign rfl) rfl ?_)) | ((with_reducible refine Knd.binOp ?_); ((refine Exec.stab rfl (Stab.int rfl rfl rfl) rfl ?_))) | ((with_reducible refine Knd.pick ?_); ((refine Exec.stab rfl (Stab.pick_fd rfl (by first | (with_reducible assumption) | (with_reducible rfl) | (with_reducible exact (not_not_intro rfl)) | omega) rfl) rfl ?_))) | ((with_reducible refine Knd.extract ?_); (refine Exec.stab rfl (Stab.extract rfl rfl) rfl ?_)))) | (with_reducible refine Tr.next ?_) | (with_reducible refine Tr.seq ?_) | (with_reducible refine Tr.region ?_) | (with_reducible refine Tr.nil ?_) | ((refine Tr.guard_y' rfl rfl rfl (by first | (with_reducible assumption) | (with_reducible rfl) | (with_reducible exact (not_not_intro rfl)) | omega) ?_); (first | ((with_reducible refine Knd.move ?_); (refine Exec.stab rfl (Stab.move rfl) rfl ?_)) | ((with_reducible refine Knd.unOp ?_); ((refine Exec.stab rfl (Stab.not rfl) rfl ?_))))) | (with_reducible refine Tr.skip ?_) | (refine Tr.cond_bf rfl (by first | (with_reducible rfl) | (with_reducible assumption) | (with_reducible exact Bool.not_true) | (with_reducible exact Bool.not_false)) ?_))
  (((apply Tr.draw); (kernel_rfl)); (refine TrA.take 0 (by kernel_rfl) rfl (by kernel_rfl) (by first | exact fun _ _ _ h => h | exact fun _ _ _ h => nomatch h.1) (by exact fun _ h => h) rfl (by first | exact Stab.move rfl) rfl rfl ?_); (refine TrA.take 2 (by kernel_rfl) rfl (by kernel_rfl) (by first | exact fun _ _ _ h => h | exact fun _ _ _ h => nomatch h.1) (by exact fun _ h => h) rfl (by first | exact Stab.move rfl) rfl rfl ?_); (refine TrA.take 5 (by kernel_rfl) rfl (by kernel_rfl) (by first | exact fun _ _ _ h => h | exact fun _ _ _ h => nomatch h.1) (by exact fun _ h => h) rfl (by first | exact Stab.move rfl) rfl rfl ?_); (refine TrA.take 7 (by kernel_rfl) rfl (by kernel_rfl) (by first | exact fun _ _ _ h => h | exact fun _ _ _ h => nomatch h.1) (by exact fun _ h => h) rfl (by first | exact Stab.move rfl) rfl rfl ?_); (refine TrA.take 1 (by kernel_rfl) rfl (by kernel_rfl) (by first | exact fun _ _ _ h => h | exact fun _ _ _ h => nomatch h.1) (by exact fun _ h => h) rfl (by exact Stab.convi rfl (tysOk.get rfl) (tysOk.get rfl) rfl rfl (by omega)) rfl rfl ?_); (refine TrA.take 3 (by kernel_rfl) rfl (by kernel_rfl) (by first | exact fun _ _ _ h => h | exact fun _ _ _ h => nomatch h.1) (by exact fun _ h => h) rfl (by first | exact Stab.len rfl (tysOk.get rfl) rfl | exact Stab.lensL rfl (tysOk.get rfl) rfl | exact Stab.lens rfl (tysOk.get rfl) rfl) rfl rfl ?_); (refine TrA.take 6 (by kernel_rfl) rfl (by kernel_rfl) (by first | exact fun _ _ _ h => h | exact fun _ _ _ h => nomatch h.1) (by exact fun _ h => h) rfl (by exact Stab.convi rfl (tysOk.get rfl) (tysOk.get rfl) rfl rfl (by omega)) rfl rfl ?_); (refine TrA.take 8 (by kernel_rfl) rfl (by kernel_rfl) (by first | exact fun _ _ _ h => h | exact fun _ _ _ h => nomatch h.1) (by exact fun _ h => h) rfl (by first | exact Stab.len rfl (tysOk.get rfl) rfl | exact Stab.lensL rfl (tysOk.get rfl) rfl | exact Stab.lens rfl (tysOk.get rfl) rfl) rfl rfl ?_); (refine TrA.take 4 (by kernel_rfl) rfl (by kernel_rfl) (by first | exact fun _ _ _ h => h | exact fun _ _ _ h => nomatch h.1) (by exact fun _ h => h) rfl (by exact Stab.remp rfl rfl (by omega) (by omega)) rfl rfl ?_); (refine TrA.take 9 (by kernel_rfl) rfl (by kernel_rfl) (by first | exact fun _ _ _ h => h | exact fun _ _ _ h => nomatch h.1) (by exact fun _ h => h) rfl (by exact Stab.remp rfl rfl (by omega) (by omega)) rfl rfl ?_); (refine TrA.take 10 (by kernel_rfl) rfl (by kernel_rfl) (by first | exact fun _ _ _ h => h | exact fun _ _ _ h => nomatch h.1) (by exact fun _ h => h) rfl (by first | exact Stab.assign rfl) rfl rfl ?_); (refine TrA.take 11 (by kernel_rfl) rfl (by kernel_rfl) (by first | exact fun _ _ _ h => h | exact fun _ _ _ h => nomatch h.1) (by exact fun _ h => h) rfl (by first | exact Stab.assign rfl) rfl rfl ?_); (refine TrA.done (by kernel_rfl) ?_))
  rw [eri, erk]
  have hmr : 0 ≤ max (0 : Int) (min more 1048576) ∧ max (0 : Int) (min more 1048576) ≤ 1048576 := by omega
  generalize hmm : max (0 : Int) (min more 1048576) = mo at hmr
  repeat (first | ((with_reducible refine Tr.step rfl ?_); (first | ((with_reducible refine Knd.move ?_); (refine Exec.stab rfl (Stab.move rfl) rfl ?_)) | ((with_reducible refine Knd.assign ?_); (refine Exec.stab rfl (Stab.assign rfl) rfl ?_)) | ((with_reducible refine Knd.max ?_); (refine Exec.stab rfl (Stab.max2 rfl rfl) rfl ?_)) | ((with_reducible refine Knd.min ?_); (refine Exec.stab rfl (Stab.min2 rfl rfl) rfl ?_)) | ((with_reducible refine Knd.buildSlice ?_); ((refine Exec.buildSlice (tysOk.get rfl) rfl (tysOk.get rfl) rfl rfl rfl rfl rfl (by repeat (exact BuildP.nil)) rfl (fun b => ?_)))))) | (with_reducible refine Tr.next ?_) | (with_reducible refine Tr.seq ?_) | (with_reducible refine Tr.region ?_) | (with_reducible refine Tr.nil ?_))
  rw [hmm]
  refine Tr.less [(103, _), (102, _), (5, _), (20, _), (19, _), (0, .slice A0 fits.length c0), (1, .slice A1 sup.length c1), (2, .slice A2 need.length c2), (6, .slice A6 row.length c6)] _ (by repeat (first | exact SubFr.nil | refine SubFr.cons rfl ?_)) (by repeat (first | exact DropL.refl | apply DropL.skip)) ?_
  -- the rows and one more
  refine Tr.box_own (e := 43) 1 0 (by repeat (first | exact Upd.here | apply Upd.there)) rfl (by intro u hu; cases hu) (by simp [maxLen]) ?_
  have fone : ∀ u ∈ fcs, u.oneCell' = true := fun u hu => by
    obtain ⟨q, hq⟩ := List.mem_iff_getElem?.1 hu
    have hq1 := (List.getElem?_eq_some_iff.1 hq).1
    obtain ⟨x, hx⟩ := get_of_lt (xs := fits) (i := q) (by omega)
    obtain ⟨A9, k9, e9, -⟩ := fel.2 q x hx
    rw [Nat.mul_one, List.take_one, List.head?_drop, hq] at e9
    have : u = .slice A9 x.length k9 := by simpa using e9
    rw [this]; rfl
  ((refine Tr.step rfl ?_))
  refine Exec.append (news := fcs) rfl rfl (tysOk.get rfl) rfl (tysOk.get rfl) rfl rfl rfl rfl (by repeat (first | exact Del.here | apply Del.there)) (Src.row frow) (by omega) fone (by omega) (by omega) rfl (fun R1 k1 hk1 => ?_)
  rw [zeros0_app, Nat.zero_add]
  repeat (((with_reducible refine Tr.step rfl ?_); (first | ((with_reducible refine Knd.move ?_); (refine Exec.stab rfl (Stab.move rfl) rfl ?_)) | ((with_reducible refine Knd.buildSlice ?_); ((refine Exec.buildSlice (tysOk.get rfl) rfl (tysOk.get rfl) rfl rfl rfl rfl rfl (by repeat (first | exact BuildP.nil | ((apply BuildP.one); (rfl); (rfl); (first | rfl | assumption); (repeat (first | exact SetL.z | apply SetL.s))))) rfl (fun b => ?_)))))))
  refine Tr.cells (cs' := [.slice A6 row.length c6]) (by repeat (first | exact Upd.here | apply Upd.there)) rfl ?_
  ((refine Tr.step rfl ?_))
  refine Exec.append (A := R1) (news := [.slice A6 row.length c6]) rfl rfl (tysOk.get rfl) rfl (tysOk.get rfl) rfl rfl rfl rfl (by repeat (first | exact Del.here | apply Del.there)) (Src.box (by repeat (first | exact Has.here | apply Has.there))) rfl (by intro u hu; simp at hu; subst hu; rfl) (by omega) (by omega) rfl (fun R2 k2 hk2 => ?_)
  refine Tr.publish (r := ownS 43 1 R2 _ _ _) (by repeat (first | exact Del.here | apply Del.there)) (fun M3 hm3 hok => ?_)
  refine Tr.give (r := box _ 43 [_]) (by repeat (first | exact Del.here | apply Del.there)) ?_
  have hrows : Fits2 M3 (.slice R2 (fits ++ [row]).length k2) (fits ++ [row]) := SlOf.ofOwn hok (by simp) hk2 ((fel.mono RRowB.mono hm3).append (Elems.one rfl ⟨A6, c6, rfl, hrow2.mono RBo.mono hm3⟩))
  rw [show (fits ++ [row]).length = fits.length + 1 by simp] at hrows
  clear hok
  -- more of a supply
  obtain ⟨sx, hsx⟩ := get_of_lt hil
  obtain ⟨nx, hnx⟩ := get_of_lt hkl
  have hsx' := intV_get hsx
  have hnx' := intV_get hnx
  have hsl : (intV sup).length = sup.length := by simp
  have hnl : (intV need).length = need.length := by simp
  repeat (first | ((with_reducible refine Tr.step rfl ?_); (first | ((with_reducible refine Knd.move ?_); (refine Exec.stab rfl (Stab.move rfl) rfl ?_)) | ((with_reducible refine Knd.assign ?_); (refine Exec.stab rfl (Stab.assign rfl) rfl ?_)) | ((with_reducible refine Knd.buildSlice ?_); ((refine Exec.buildSlice (tysOk.get rfl) rfl (tysOk.get rfl) rfl rfl rfl rfl rfl (by repeat (exact BuildP.nil)) rfl (fun b => ?_)))))) | (with_reducible refine Tr.next ?_) | (with_reducible refine Tr.seq ?_) | (with_reducible refine Tr.region ?_) | (with_reducible refine Tr.nil ?_))
  refine Tr.box_own (e := 3) 1 0 (by repeat (first | exact Upd.here | apply Upd.there)) rfl (by intro u hu; cases hu) (by simp [maxLen]) ?_
  ((refine Tr.step rfl ?_))
  refine Exec.append (news := intV sup) rfl rfl (tysOk.get rfl) rfl (tysOk.get rfl) rfl rfl rfl rfl (by repeat (first | exact Del.here | apply Del.there)) (Src.row (Ints.row (hs2.mono RI.mono hm3))) (by simp) (intV_one _) (by omega) (by omega) rfl (fun L1 k3 hk3 => ?_)
  rw [zeros0_app, Nat.zero_add]
  refine Tr.own_some L1 (by repeat (first | exact Has.here | apply Has.there)) (by omega) (fun hL1 => ?_)
  repeat (first | ((with_reducible refine Tr.step rfl ?_); (first | ((with_reducible refine Knd.move ?_); (refine Exec.stab rfl (Stab.move rfl) rfl ?_)) | ((with_reducible refine Knd.assign ?_); (refine Exec.stab rfl (Stab.assign rfl) rfl ?_)) | ((with_reducible refine Knd.load ?_); ((refine Exec.stab rfl (Stab.loadO rfl (tysOk.get rfl) rfl (by repeat (first | exact Has.here | apply Has.there)) (by assumption)) rfl ?_))) | ((with_reducible refine Knd.max ?_); (refine Exec.stab rfl (Stab.max2 rfl rfl) rfl ?_)) | ((with_reducible refine Knd.store ?_); ((refine Exec.storeO rfl rfl (tysOk.get rfl) rfl (by first | rfl | assumption) (by repeat (first | exact Upd.here | apply Upd.there)) (by omega) ?_))) | ((with_reducible refine Knd.indexAddr ?_); ((refine Exec.stab rfl (Stab.indexAddr rfl rfl (tysOk.get rfl) rfl (tysOk.get rfl) rfl (by omega) (by omega) (by first | rfl | assumption)) rfl ?_))) | ((with_reducible refine Knd.buildSlice ?_); ((refine Exec.buildSlice (tysOk.get rfl) rfl (tysOk.get rfl) rfl rfl rfl rfl rfl (by repeat (exact BuildP.nil)) rfl (fun b => ?_)))))) | (with_reducible refine Tr.next ?_) | (with_reducible refine Tr.seq ?_) | (with_reducible refine Tr.region ?_) | (with_reducible refine Tr.nil ?_))
  rw [intV_set, Int.toNat_natCast i]
  refine Tr.publish (r := ownS 3 1 L1 _ _ _) (by repeat (first | exact Del.here | apply Del.there)) (fun M4 hm4 hok => ?_)
  have hlarge : Ints M4 (.slice L1 (sup.set i (max sx mo)).length k3) (sup.set i (max sx mo)) := Ints.ofOwn hok (by simp) hk3
  rw [List.length_set] at hlarge
  clear hok
  have hm24 := hm3.trans hm4
  -- less of a request
  refine Tr.box_own (e := 3) 1 0 (by repeat (first | exact Upd.here | apply Upd.there)) rfl (by intro u hu; cases hu) (by simp [maxLen]) ?_
  ((refine Tr.step rfl ?_))
  refine Exec.append (news := intV need) rfl rfl (tysOk.get rfl) rfl (tysOk.get rfl) rfl rfl rfl rfl (by repeat (first | exact Del.here | apply Del.there)) (Src.row (Ints.row (hn2.mono RI.mono hm24))) (by simp) (intV_one _) (by omega) (by omega) rfl (fun L2 k4 hk4 => ?_)
  rw [zeros0_app, Nat.zero_add]
  refine Tr.own_some L2 (by repeat (first | exact Has.here | apply Has.there)) (by omega) (fun hL2 => ?_)
  repeat (first | ((with_reducible refine Tr.step rfl ?_); (first | ((with_reducible refine Knd.move ?_); (refine Exec.stab rfl (Stab.move rfl) rfl ?_)) | ((with_reducible refine Knd.assign ?_); (refine Exec.stab rfl (Stab.assign rfl) rfl ?_)) | ((with_reducible refine Knd.load ?_); ((refine Exec.stab rfl (Stab.loadO rfl (tysOk.get rfl) rfl (by repeat (first | exact Has.here | apply Has.there)) (by assumption)) rfl ?_))) | ((with_reducible refine Knd.min ?_); (refine Exec.stab rfl (Stab.min2 rfl rfl) rfl ?_)) | ((with_reducible refine Knd.store ?_); ((refine Exec.storeO rfl rfl (tysOk.get rfl) rfl (by first | rfl | assumption) (by repeat (first | exact Upd.here | apply Upd.there)) (by omega) ?_))) | ((with_reducible refine Knd.indexAddr ?_); ((refine Exec.stab rfl (Stab.indexAddr rfl rfl (tysOk.get rfl) rfl (tysOk.get rfl) rfl (by omega) (by omega) (by first | rfl | assumption)) rfl ?_))) | ((with_reducible refine Knd.buildSlice ?_); ((refine Exec.buildSlice (tysOk.get rfl) rfl (tysOk.get rfl) rfl rfl rfl rfl rfl (by repeat (exact BuildP.nil)) rfl (fun b => ?_)))))) | (with_reducible refine Tr.next ?_) | (with_reducible refine Tr.seq ?_) | (with_reducible refine Tr.region ?_) | (with_reducible refine Tr.nil ?_))
  rw [intV_set, Int.toNat_natCast k]
  refine Tr.publish (r := ownS 3 1 L2 _ _ _) (by repeat (first | exact Del.here | apply Del.there)) (fun M5 hm5 hok => ?_)
  have hless : Ints M5 (.slice L2 (need.set k (min nx mo)).length k4) (need.set k (min nx mo)) := Ints.ofOwn hok (by simp) hk4
  rw [List.length_set] at hless
  clear hok
  have hm25 := hm24.trans hm5
  -- one more pair
  obtain ⟨frw, hfrw⟩ := get_of_lt (xs := fits) (i := i) (by omega)
  have hfrl := hv.rows frw (List.mem_of_getElem? hfrw)
  obtain ⟨A9, k9, e9, hB9⟩ := fel.2 i frw hfrw
  rw [Nat.mul_one, List.take_one, List.head?_drop] at e9
  have hfc : fcs[i]? = some (.slice A9 frw.length k9) := by
    cases h : fcs[i]? with
    | none => rw [h] at e9; cases e9
    | some u => rw [h] at e9; simpa using e9
  refine Tr.box_own (e := 43) 1 0 (by repeat (first | exact Upd.here | apply Upd.there)) rfl (by intro u hu; cases hu) (by simp [maxLen]) ?_
  ((refine Tr.step rfl ?_))
  refine Exec.append (news := fcs) rfl rfl (tysOk.get rfl) rfl (tysOk.get rfl) rfl rfl rfl rfl (by repeat (first | exact Del.here | apply Del.there)) (Src.row (frow.mono hm25)) (by omega) fone (by omega) (by omega) rfl (fun W1 k5 hk5 => ?_)
  rw [zeros0_app, Nat.zero_add]
  refine Tr.own_some W1 (by repeat (first | exact Has.here | apply Has.there)) (by omega) (fun hW1 => ?_)
  repeat (first | ((with_reducible refine Tr.step rfl ?_); (first | ((with_reducible refine Knd.move ?_); (refine Exec.stab rfl (Stab.move rfl) rfl ?_)) | ((with_reducible refine Knd.assign ?_); (refine Exec.stab rfl (Stab.assign rfl) rfl ?_)) | ((with_reducible refine Knd.load ?_); ((refine Exec.stab rfl (Stab.loadO rfl (tysOk.get rfl) rfl (by repeat (first | exact Has.here | apply Has.there)) (by assumption)) rfl ?_))) | ((with_reducible refine Knd.indexAddr ?_); ((refine Exec.stab rfl (Stab.indexAddr rfl rfl (tysOk.get rfl) rfl (tysOk.get rfl) rfl (by omega) (by omega) (by first | rfl | assumption)) rfl ?_))) | ((with_reducible refine Knd.buildSlice ?_); ((refine Exec.buildSlice (tysOk.get rfl) rfl (tysOk.get rfl) rfl rfl rfl rfl rfl (by repeat (exact BuildP.nil)) rfl (fun b => ?_)))))) | (with_reducible refine Tr.next ?_) | (with_reducible refine Tr.seq ?_) | (with_reducible refine Tr.region ?_) | (with_reducible refine Tr.nil ?_))
  refine Tr.less [(141, _), (136, _), (135, _), (137, _), (24, _), (23, _), (22, _), (21, _), (20, _), (19, _), (5, _), (0, .slice A0 fits.length c0), (1, .slice A1 sup.length c1), (2, .slice A2 need.length c2)] _ (by repeat (first | exact SubFr.nil | refine SubFr.cons rfl ?_)) (by repeat (first | exact DropL.refl | apply DropL.skip)) ?_
  have hBr := Bools.row (show Bools M5 (.slice A9 frw.length k9) frw from hB9.mono RBo.mono hm25)
  refine Tr.box_own (e := 4) 1 0 (by repeat (first | exact Upd.here | apply Upd.there)) rfl (by intro u hu; cases hu) (by simp [maxLen]) ?_
  ((refine Tr.step rfl ?_))
  refine Exec.append (news := boV frw) rfl rfl (tysOk.get rfl) rfl (tysOk.get rfl) rfl rfl rfl rfl (by repeat (first | exact Del.here | apply Del.there)) (Src.row hBr.1) (by simp) (boV_one _) (by omega) (by omega) rfl (fun W2 k6 hk6 => ?_)
  rw [zeros0_app, Nat.zero_add]
  refine Tr.own_some W2 (by repeat (first | exact Has.here | apply Has.there)) (by omega) (fun hW2 => ?_)
  have hset : (fcs.set i (.slice W2 frw.length k6))[i]? = some (.slice W2 frw.length k6) := List.getElem?_set_self (by omega)
  have hfl2 : (boV frw).length = need.length := by simp; omega
  repeat (first | ((with_reducible refine Tr.step rfl ?_); (first | ((with_reducible refine Knd.move ?_); (refine Exec.stab rfl (Stab.move rfl) rfl ?_)) | ((with_reducible refine Knd.load ?_); ((refine Exec.stab rfl (Stab.loadO rfl (tysOk.get rfl) rfl (by repeat (first | exact Has.here | apply Has.there)) (by assumption)) rfl ?_))) | ((with_reducible refine Knd.store ?_); ((refine Exec.storeO rfl rfl (tysOk.get rfl) rfl (by first | rfl | assumption) (by repeat (first | exact Upd.here | apply Upd.there)) (by omega) ?_))) | ((with_reducible refine Knd.makeMap ?_); (refine Exec.makeMap rfl (fun b => ?_))) | ((with_reducible refine Knd.insert ?_); (refine Exec.mapInsert rfl rfl rfl (tysOk.get rfl) rfl (tysOk.get rfl) rfl (by first | exact IntKeys.nil | assumption) (by repeat (first | exact Upd.here | apply Upd.there)) ?_)) | ((with_reducible refine Knd.indexAddr ?_); ((refine Exec.stab rfl (Stab.indexAddr rfl rfl (tysOk.get rfl) rfl (tysOk.get rfl) rfl (by omega) (by omega) (by first | rfl | assumption)) rfl ?_))))) | (with_reducible refine Tr.next ?_) | (with_reducible refine Tr.seq ?_) | (with_reducible refine Tr.region ?_) | (with_reducible refine Tr.nil ?_))
  rw [Int.toNat_natCast i]
  repeat (fail)
  rw [boV_set, Int.toNat_natCast k]
  refine Tr.publish (r := ownS 4 1 W2 _ _ _) (by repeat (first | exact Del.here | apply Del.there)) (fun M6 hm6 hok => ?_)
  have hw2 : Bools M6 (.slice W2 (frw.set k true).length k6) (frw.set k true) := SlOf.ofOwn hok (by simp) hk6 (boV_elems M6 _)
  clear hok
  have hm26 := hm25.trans hm6
  refine Tr.publish (r := ownS 43 1 W1 _ _ _) (by repeat (first | exact Del.here | apply Del.there)) (fun M7 hm7 hok => ?_)
  have hm27 := hm26.trans hm7
  have hwide : Fits2 M7 (.slice W1 (fits.set i (frw.set k true)).length k5) (fits.set i (frw.set k true)) := SlOf.ofOwn hok (by simp) hk5 (Elems.set (fel.mono RRowB.mono hm27) (x := frw.set k true) ⟨W2, k6, by rw [List.length_set], hw2.mono RBo.mono hm7⟩)
  rw [List.length_set] at hwide
  clear hok
  have hsay : saysB (updE (k : Int) (.bool true) [] 0).1 (outK k) need.length := ⟨updE_keys IntKeys.nil, fun q _ => by
    rw [updE_val]
    unfold outK
    by_cases e : (q : Int) = (k : Int)
    · have e' : q = k := by omega
      rw [if_pos e]; simp [e']
    · have e' : ¬ q = k := by omega
      rw [if_neg e]; simp [e', valE, lookE]⟩
  have hwo := fun mb => without_fn M7 A0 A2 c0 c2 fits need (hf2.mono RRowB.mono hm27) (hn2.mono RI.mono hm27) mb (updE (k : Int) (.bool true) [] 0).1 (updE (k : Int) (.bool true) [] 0).2 (outK k) hsay hv.rows hv.ln (by omega)
  refine Tr.less [(155, _), (152, _), (151, _), (24, _), (23, _), (22, _), (21, _), (20, _), (5, _), (0, .slice A0 fits.length c0), (1, .slice A1 sup.length c1), (2, .slice A2 need.length c2)] _ (by repeat (first | exact SubFr.nil | refine SubFr.cons rfl ?_)) (by repeat (first | exact DropL.refl | apply DropL.skip)) ?_
  repeat (fail)
  ((refine Tr.step rfl ?_))
  refine Exec.call (A := [mapR b (updE (k : Int) (.bool true) [] 0).1 (updE (k : Int) (.bool true) [] 0).2]) rfl (hwo b) (List.Perm.refl _) rfl ?_
  rintro _ M8 _ hm8 ⟨rfl, B1, e1, B2, e2, rfl, hR, hL⟩
  have hm28 := hm27.trans hm8
  simp only [List.cons_append, List.nil_append]
  refine Tr.give (r := mapR b _ _) (by repeat (first | exact Del.here | apply Del.there)) ?_
  repeat (first | ((with_reducible refine Tr.step rfl ?_); (first | ((with_reducible refine Knd.move ?_); (refine Exec.stab rfl (Stab.move rfl) rfl ?_)) | ((with_reducible refine Knd.assign ?_); (refine Exec.stab rfl (Stab.assign rfl) rfl ?_)) | ((with_reducible refine Knd.extract ?_); (refine Exec.stab rfl (Stab.extract rfl rfl) rfl ?_)) | ((with_reducible refine Knd.buildSlice ?_); ((refine Exec.buildSlice (tysOk.get rfl) rfl (tysOk.get rfl) rfl rfl rfl rfl rfl (by repeat (exact BuildP.nil)) rfl (fun b => ?_)))))) | (with_reducible refine Tr.next ?_) | (with_reducible refine Tr.seq ?_) | (with_reducible refine Tr.region ?_) | (with_reducible refine Tr.nil ?_))
  -- the five problems
  obtain ⟨q1, p1⟩ := more_sup hv g5 hmr (by omega) hfe
  obtain ⟨q2, p2⟩ := large_sup hv hsx (y := max sx mo) (by omega) (by have := (hv.rs sx (List.mem_of_getElem? hsx)).2; omega) hfe
  obtain ⟨q3, p3⟩ := less_need hv hnx (y := min nx mo) (by omega) (by have := (hv.rn nx (List.mem_of_getElem? hnx)).1; omega) hfe
  obtain ⟨q4, p4⟩ := wide_fits hv (j := k) hfrw hfe
  obtain ⟨q5, p5⟩ := fewer_need hv (outK k) hfe
  have hI64 : ∀ l : List Int, (∀ x ∈ l, 0 ≤ x ∧ x ≤ 1048576) → I64s l := fun l h x hx => by have := h x hx; omega
  refine Tr.box_own (e := 3) 1 0 (by repeat (first | exact Upd.here | apply Upd.there)) rfl (by intro u hu; cases hu) (by simp [maxLen]) ?_
  ((refine Tr.step rfl ?_))
  refine Exec.append (news := intV sup) rfl rfl (tysOk.get rfl) rfl (tysOk.get rfl) rfl rfl rfl rfl (by repeat (first | exact Del.here | apply Del.there)) (Src.row (Ints.row (hs2.mono RI.mono hm28))) (by simp) (intV_one _) (by omega) (by omega) rfl (fun L3 k7 hk7 => ?_)
  rw [zeros0_app, Nat.zero_add]
  repeat (((with_reducible refine Tr.step rfl ?_); (first | ((with_reducible refine Knd.move ?_); (refine Exec.stab rfl (Stab.move rfl) rfl ?_)) | ((with_reducible refine Knd.buildSlice ?_); ((refine Exec.buildSlice (tysOk.get rfl) rfl (tysOk.get rfl) rfl rfl rfl rfl rfl (by repeat (first | exact BuildP.nil | ((apply BuildP.one); (rfl); (rfl); (first | rfl | assumption); (repeat (first | exact SetL.z | apply SetL.s))))) rfl (fun b => ?_)))))))
  refine Tr.cells (cs' := [.int .i64 mo]) (by repeat (first | exact Upd.here | apply Upd.there)) rfl ?_
  ((refine Tr.step rfl ?_))
  refine Exec.append (A := L3) (news := [.int .i64 mo]) rfl rfl (tysOk.get rfl) rfl (tysOk.get rfl) rfl rfl rfl rfl (by repeat (first | exact Del.here | apply Del.there)) (Src.box (by repeat (first | exact Has.here | apply Has.there))) rfl (by intro u hu; simp at hu; subst hu; rfl) (by omega) (by omega) rfl (fun L4 k8 hk8 => ?_)
  rw [copyI]
  refine Tr.give (r := box _ 3 [_]) (by repeat (first | exact Del.here | apply Del.there)) ?_
  refine Tr.publish (r := ownS 3 1 L4 _ _ _) (by repeat (first | exact Del.here | apply Del.there)) (fun M9 hm9 hok => ?_)
  have hm29 := hm28.trans hm9
  have hsup1 : Ints M9 (.slice L4 (sup ++ [mo]).length k8) (sup ++ [mo]) := Ints.ofOwn hok (by simp) hk8
  clear hok
  have hf1 := flow_fn M9 R2 L4 A2 k2 k8 c2 (fits ++ [row]) (sup ++ [mo]) need (by rw [show (fits ++ [row]).length = fits.length + 1 by simp]; exact hrows.mono RRowB.mono ((hm4.trans (hm5.trans (hm6.trans (hm7.trans (hm8.trans hm9))))))) hsup1 (hn2.mono RI.mono hm29) (hI64 _ q1.rs) rn
  rw [show (fits ++ [row]).length = fits.length + 1 by simp, show (sup ++ [mo]).length = sup.length + 1 by simp] at hf1
  repeat (((with_reducible refine Tr.step rfl ?_); (((with_reducible refine Knd.move ?_); (refine Exec.stab rfl (Stab.move rfl) rfl ?_)))))
  ((refine Tr.step rfl ?_))
  refine Exec.call0 rfl hf1 rfl ?_
  rintro x1 N1 hN1 hx1
  obtain ⟨a1, -, D1, d1, rfl, -⟩ := hx1.yes (vld_iff.2 q1) p1
  have hP1 := hm29.trans hN1
  have hf2' := flow_fn N1 A0 L1 A2 c0 k3 c2 fits (sup.set i (max sx mo)) need (hf2.mono RRowB.mono hP1) (by rw [List.length_set]; exact hlarge.mono RI.mono (hm5.trans (hm6.trans (hm7.trans (hm8.trans (hm9.trans hN1)))))) (hn2.mono RI.mono hP1) (hI64 _ q2.rs) rn
  rw [List.length_set] at hf2'
  repeat (first | ((with_reducible refine Tr.step rfl ?_); (first | ((with_reducible refine Knd.move ?_); (refine Exec.stab rfl (Stab.move rfl) rfl ?_)) | ((with_reducible refine Knd.assign ?_); (refine Exec.stab rfl (Stab.assign rfl) rfl ?_)) | ((with_reducible refine Knd.extract ?_); (refine Exec.stab rfl (Stab.extract rfl rfl) rfl ?_)))) | (with_reducible refine Tr.next ?_) | (with_reducible refine Tr.seq ?_) | (with_reducible refine Tr.region ?_) | (with_reducible refine Tr.nil ?_))
  ((refine Tr.step rfl ?_))
  refine Exec.call0 rfl hf2' rfl ?_
  rintro x2 N2 hN2 hx2
  obtain ⟨a2, -, D2, d2, rfl, -⟩ := hx2.yes (vld_iff.2 q2) p2
  have hP2 := hP1.trans hN2
  have hf3' := flow_fn N2 A0 A1 L2 c0 c1 k4 fits sup (need.set k (min nx mo)) (hf2.mono RRowB.mono hP2) (hs2.mono RI.mono hP2) (by rw [List.length_set]; exact hless.mono RI.mono (hm6.trans (hm7.trans (hm8.trans (hm9.trans (hN1.trans hN2)))))) rs (hI64 _ q3.rn)
  rw [List.length_set] at hf3'
  repeat (first | ((with_reducible refine Tr.step rfl ?_); (first | ((with_reducible refine Knd.move ?_); (refine Exec.stab rfl (Stab.move rfl) rfl ?_)) | ((with_reducible refine Knd.assign ?_); (refine Exec.stab rfl (Stab.assign rfl) rfl ?_)) | ((with_reducible refine Knd.extract ?_); (refine Exec.stab rfl (Stab.extract rfl rfl) rfl ?_)))) | (with_reducible refine Tr.next ?_) | (with_reducible refine Tr.seq ?_) | (with_reducible refine Tr.region ?_) | (with_reducible refine Tr.nil ?_))
  ((refine Tr.step rfl ?_))
  refine Exec.call0 rfl hf3' rfl ?_
  rintro x3 N3 hN3 hx3
  obtain ⟨a3, -, D3, d3, rfl, -⟩ := hx3.yes (vld_iff.2 q3) p3
  have hP3 := hP2.trans hN3
  have hf4' := flow_fn N3 W1 A1 A2 k5 c1 c2 (fits.set i (frw.set k true)) sup need (by rw [List.length_set]; exact hwide.mono RRowB.mono (hm8.trans (hm9.trans (hN1.trans (hN2.trans hN3))))) (hs2.mono RI.mono hP3) (hn2.mono RI.mono hP3) rs rn
  rw [List.length_set] at hf4'
  repeat (first | ((with_reducible refine Tr.step rfl ?_); (first | ((with_reducible refine Knd.move ?_); (refine Exec.stab rfl (Stab.move rfl) rfl ?_)) | ((with_reducible refine Knd.assign ?_); (refine Exec.stab rfl (Stab.assign rfl) rfl ?_)) | ((with_reducible refine Knd.extract ?_); (refine Exec.stab rfl (Stab.extract rfl rfl) rfl ?_)))) | (with_reducible refine Tr.next ?_) | (with_reducible refine Tr.seq ?_) | (with_reducible refine Tr.region ?_) | (with_reducible refine Tr.nil ?_))
  ((refine Tr.step rfl ?_))
  refine Exec.call0 rfl hf4' rfl ?_
  rintro x4 N4 hN4 hx4
  obtain ⟨a4, -, D4, d4, rfl, -⟩ := hx4.yes (vld_iff.2 q4) p4
  have hP4 := hP3.trans hN4
  have hf5' := flow_fn N4 B1 A1 B2 e1 c1 e2 (fits.map fun r => keep (outK k) r 0) sup (keep (outK k) need 0) (by rw [List.length_map]; exact hR.mono RRowB.mono (hm9.trans (hN1.trans (hN2.trans (hN3.trans hN4))))) (hs2.mono RI.mono hP4) (hL.mono RI.mono (hm9.trans (hN1.trans (hN2.trans (hN3.trans hN4))))) rs (hI64 _ q5.rn)
  rw [List.length_map] at hf5'
  repeat (first | ((with_reducible refine Tr.step rfl ?_); (first | ((with_reducible refine Knd.move ?_); (refine Exec.stab rfl (Stab.move rfl) rfl ?_)) | ((with_reducible refine Knd.assign ?_); (refine Exec.stab rfl (Stab.assign rfl) rfl ?_)) | ((with_reducible refine Knd.extract ?_); (refine Exec.stab rfl (Stab.extract rfl rfl) rfl ?_)))) | (with_reducible refine Tr.next ?_) | (with_reducible refine Tr.seq ?_) | (with_reducible refine Tr.region ?_) | (with_reducible refine Tr.nil ?_))
  ((refine Tr.step rfl ?_))
  refine Exec.call0 rfl hf5' rfl ?_
  rintro x5 N5 hN5 hx5
  obtain ⟨a5, -, D5, d5, rfl, -⟩ := hx5.yes (vld_iff.2 q5) p5
  have hfin := hM2.trans (hP4.trans hN5)
  clear hx1 hx2 hx3 hx4 hx5 hf1 hf2' hf3' hf4' hf5' p1 p2 p3 p4 p5 q1 q2 q3 q4 q5
  repeat (first | ((with_reducible refine Tr.step rfl ?_); (first | ((with_reducible refine Knd.move ?_); (refine Exec.stab rfl (Stab.move rfl) rfl ?_)) | ((with_reducible refine Knd.assign ?_); (refine Exec.stab rfl (Stab.assign rfl) rfl ?_)) | ((with_reducible refine Knd.binOp ?_); ((refine Exec.stab rfl (Stab.int rfl rfl rfl) rfl ?_))) | ((with_reducible refine Knd.pick ?_); (first | (refine Exec.stab rfl (Stab.pick_t rfl (by first | (with_reducible rfl) | (with_reducible assumption) | (with_reducible exact Bool.not_true) | (with_reducible exact Bool.not_false)) rfl) rfl ?_) | (refine Exec.stab rfl (Stab.pick_td rfl (by first | (with_reducible assumption) | (with_reducible rfl) | (with_reducible exact (not_not_intro rfl)) | omega) rfl) rfl ?_))) | ((with_reducible refine Knd.extract ?_); (refine Exec.stab rfl (Stab.extract rfl rfl) rfl ?_)))) | (with_reducible refine Tr.next ?_) | (with_reducible refine Tr.seq ?_) | (with_reducible refine Tr.region ?_) | (with_reducible refine Tr.nil ?_) | ((refine Tr.guard_l rfl rfl rfl (by first | (with_reducible rfl) | (with_reducible assumption) | (with_reducible exact Bool.not_true) | (with_reducible exact Bool.not_false)) ?_); (((with_reducible refine Knd.move ?_); (refine Exec.stab rfl (Stab.move rfl) rfl ?_)))) | ((refine Tr.guard_y rfl rfl rfl (by first | (with_reducible assumption) | (with_reducible rfl) | (with_reducible exact (not_not_intro rfl)) | omega) ?_); (first | ((with_reducible refine Knd.move ?_); (refine Exec.stab rfl (Stab.move rfl) rfl ?_)) | ((with_reducible refine Knd.binOp ?_); ((refine Exec.stab rfl (Stab.int rfl rfl rfl) rfl ?_))))) | (with_reducible refine Tr.ret ?_))
  (refine Tr.done (by first | exact .inl rfl | exact .inr rfl) rfl (by repeat (first | exact RVs.nil | (apply RVs.cons; (exact RV.tmp rfl)))) (by first | exact Mem.le.refl _ | assumption) (by exact ⟨[], rfl⟩) ⟨rfl, ?_⟩)
  rfl
end Go.Proofs.Ytmioocddmlfboaa
/-
  Matching: how the arguments of the laws read.
  Conditions: none.
-/
namespace Go.Proofs.Ytmioocddmlfboaa
open Go Bf
open Go.ChangeShapes Go.WideShapes Go.ChangeAt Go.RowKit
theorem SlOf.imp {α : Type} {sz : Nat} {R R' : Mem → List Value → α → Prop} {M : Mem} {v : Value} {xs : List α} (h : SlOf sz R M v xs) (hR : ∀ c x, x ∈ xs → R M c x → R' M c x) : SlOf sz R' M v xs := by
  obtain ⟨A, c, cells, h1, h2, h3, h4, h5, h6⟩ := h
  exact ⟨A, c, cells, h1, h2, h3, h4, h5, fun i x hx => hR _ x (List.mem_of_getElem? hx) (h6 i x hx)⟩
section
variable {H : Type} {enc : TypeId × Value → H} {W : World} {base : Nat} {v : Value}
theorem u3 : Try.prog.underlying 3 = some (.int .i64) := (tysOk.get (t := 3) rfl).1
theorem u4 : Try.prog.underlying 4 = some .bool := (tysOk.get (t := 4) rfl).1
theorem u22 : Try.prog.underlying 22 = some (.slice 43) := (tysOk.get (t := 22) rfl).1
theorem u23 : Try.prog.underlying 23 = some (.slice 3) := (tysOk.get (t := 23) rfl).1
theorem u24 : Try.prog.underlying 24 = some (.slice 23) := (tysOk.get (t := 24) rfl).1
theorem u43 : Try.prog.underlying 43 = some (.slice 4) := (tysOk.get (t := 43) rfl).1
theorem c3 : Try.prog.cellsOf 3 = 1 := by kernel_rfl
theorem c4 : Try.prog.cellsOf 4 = 1 := by kernel_rfl
theorem c23 : Try.prog.cellsOf 23 = 1 := by kernel_rfl
theorem c43 : Try.prog.cellsOf 43 = 1 := by kernel_rfl
theorem int_bounds {n : Int} (hw : (Lit.int .i64 n).wf = true) : -9223372036854775808 ≤ n ∧ n ≤ 9223372036854775807 := by
  have hmin : IntKind.i64.min = -9223372036854775808 := by decide
  have hmax : IntKind.i64.max = 9223372036854775807 := by decide
  simpa [Lit.wf, hmin, hmax] using hw
theorem arg_int (h : Arg enc Try.prog W base 3 v) : ∃ a : Int, v = .int .i64 a ∧ -9223372036854775808 ≤ a ∧ a ≤ 9223372036854775807 := by
  obtain ⟨k0, f0, x, g0⟩ := h
  obtain ⟨n, rfl⟩ := okWide_int u3 k0
  obtain ⟨m, e, hw⟩ := read_int u3 g0
  simp [Value.cells] at e
  subst e
  exact ⟨n, rfl, int_bounds hw⟩
theorem u45 : Try.prog.underlying 45 = some (.int .u16) := (tysOk.get (t := 45) rfl).1
theorem arg_u16 (h : Arg enc Try.prog W base 45 v) : ∃ a : Nat, v = .int .u16 (a : Int) ∧ a < 65536 := by
  obtain ⟨k0, f0, x, g0⟩ := h
  obtain ⟨n, rfl⟩ := okWide_int u45 k0
  obtain ⟨m, e, hw⟩ := read_int u45 g0
  simp [Value.cells] at e
  subst e
  have hmin : IntKind.u16.min = 0 := by decide
  have hmax : IntKind.u16.max = 65535 := by decide
  have hb : 0 ≤ n ∧ n ≤ 65535 := by simpa [Lit.wf, hmin, hmax] using hw
  exact ⟨n.toNat, by rw [Int.toNat_of_nonneg hb.1], by omega⟩
/-- a number that its kind holds -/
def RIb (_ : Mem) (c : List Value) (x : Int) : Prop := c = [.int .i64 x] ∧ -9223372036854775808 ≤ x ∧ x ≤ 9223372036854775807
theorem RIb.ints {M : Mem} {A : Option Addr} {n c : Nat} {l : List Int} (h : SlOf 1 RIb M (.slice A n c) l) : Ints M (.slice A n c) l ∧ I64s l := by
  refine ⟨SlOf.imp h fun c x _ hx => hx.1, fun x hx => ?_⟩
  obtain ⟨i, hi⟩ := List.mem_iff_getElem?.1 hx
  exact (h.elem hi).2.choose_spec.2.2
theorem arg_ints (h : Arg enc Try.prog W base 23 v) : ∃ (l : List Int) (A : Option Addr) (c : Nat), v = .slice A l.length c ∧ Ints (Bf.hp W) (.slice A l.length c) l ∧ I64s l := by
  obtain ⟨k0, f0, x, g0⟩ := h
  obtain ⟨A, len, cap, rfl⟩ := okWide_slice u23 k0
  obtain ⟨l, A', c', e, hs⟩ := read_slOf (R := RIb) u23 c3 (by omega) (fun f cs y hl hy => by
    obtain ⟨n, rfl, hw⟩ := read_int u3 hy
    exact ⟨by intro u hu; simp at hu; subst hu; rfl, n, rfl, int_bounds hw⟩) (by simpa [Value.cells] using g0)
  exact ⟨l, A', c', e, (RIb.ints hs).1, (RIb.ints hs).2⟩
theorem arg_bools (h : Arg enc Try.prog W base 43 v) : ∃ (l : List Bool) (A : Option Addr) (c : Nat), v = .slice A l.length c ∧ Bools (Bf.hp W) (.slice A l.length c) l := by
  obtain ⟨k0, f0, x, g0⟩ := h
  obtain ⟨A, len, cap, rfl⟩ := okWide_slice u43 k0
  exact read_slOf (R := RBo) u43 c4 (by omega) (fun f cs y hl hy => by
    obtain ⟨b, rfl⟩ := read_bool u4 hy
    exact ⟨by intro u hu; simp at hu; subst hu; rfl, b, rfl⟩) (by simpa [Value.cells] using g0)
theorem arg_rows (h : Arg enc Try.prog W base 22 v) : ∃ (l : List (List Bool)) (A : Option Addr) (c : Nat), v = .slice A l.length c ∧ Fits2 (Bf.hp W) (.slice A l.length c) l := by
  obtain ⟨k0, f0, x, g0⟩ := h
  obtain ⟨A, len, cap, rfl⟩ := okWide_slice u22 k0
  exact read_slOf (R := RRowB) u22 c43 (by omega) (fun f cs y hl hy => by
    obtain ⟨a, rfl⟩ := List.length_eq_one_iff.1 hl
    obtain ⟨l, A, c, rfl, hs⟩ := read_slOf (R := RBo) u43 c4 (by omega) (fun f cs y hl hy => by
      obtain ⟨b, rfl⟩ := read_bool u4 hy
      exact ⟨by intro u hu; simp at hu; subst hu; rfl, b, rfl⟩) hy
    exact ⟨by intro u hu; simp at hu; subst hu; rfl, l, A, c, rfl, hs⟩) (by simpa [Value.cells] using g0)
theorem arg_rowsI (h : Arg enc Try.prog W base 24 v) : ∃ (l : List (List Int)) (A : Option Addr) (c : Nat), v = .slice A l.length c ∧ Ints2 (Bf.hp W) (.slice A l.length c) l := by
  obtain ⟨k0, f0, x, g0⟩ := h
  obtain ⟨A, len, cap, rfl⟩ := okWide_slice u24 k0
  exact read_slOf (R := RRowI) u24 c23 (by omega) (fun f cs y hl hy => by
    obtain ⟨a, rfl⟩ := List.length_eq_one_iff.1 hl
    obtain ⟨l, A, c, rfl, hs⟩ := read_slOf (R := RI) u23 c3 (by omega) (fun f cs y hl hy => by
      obtain ⟨n, rfl, hw⟩ := read_int u3 hy
      exact ⟨by intro u hu; simp at hu; subst hu; rfl, n, rfl⟩) hy
    exact ⟨by intro u hu; simp at hu; subst hu; rfl, l, A, c, rfl, hs⟩) (by simpa [Value.cells] using g0)
end
theorem len3 {l : List Value} (h : l.length = 3) : ∃ a b c, l = [a, b, c] := by
  match l, h with
  | [a, b, c], _ => exact ⟨a, b, c, rfl⟩
theorem len4 {l : List Value} (h : l.length = 4) : ∃ a b c d, l = [a, b, c, d] := by
  match l, h with
  | [a, b, c, d], _ => exact ⟨a, b, c, d, rfl⟩
theorem len5 {l : List Value} (h : l.length = 5) : ∃ a b c d e, l = [a, b, c, d, e] := by
  match l, h with
  | [a, b, c, d, e], _ => exact ⟨a, b, c, d, e, rfl⟩
theorem len7 {l : List Value} (h : l.length = 7) : ∃ a b c d e f g, l = [a, b, c, d, e, f, g] := by
  match l, h with
  | [a, b, c, d, e, f, g], _ => exact ⟨a, b, c, d, e, f, g, rfl⟩
theorem ownT' : ownKnob Try.checked.prog.godebug = none := by kernel_rfl
theorem laidT' : laidOutB Try.checked.prog = true := by kernel_rfl
end Go.Proofs.Ytmioocddmlfboaa
/-
  Matching: how a byte as an argument reads.
  Conditions: none.
-/
namespace Go.Proofs.Ytmioocddmlfboaa
open Go Bf
open Go.ChangeShapes Go.WideShapes Go.ChangeAt Go.RowKit
section
variable {H : Type} {enc : TypeId × Value → H} {W : World} {base : Nat} {v : Value}
theorem u5 : Try.prog.underlying 5 = some (.int .u8) := (tysOk.get (t := 5) rfl).1
theorem arg_u8 (h : Arg enc Try.prog W base 5 v) : ∃ a : Nat, v = .int .u8 (a : Int) ∧ a < 256 := by
  obtain ⟨k0, f0, x, g0⟩ := h
  obtain ⟨n, rfl⟩ := okWide_int u5 k0
  obtain ⟨m, e, hw⟩ := read_int u5 g0
  simp [Value.cells] at e
  subst e
  have hmin : IntKind.u8.min = 0 := by decide
  have hmax : IntKind.u8.max = 255 := by decide
  have hb : 0 ≤ n ∧ n ≤ 255 := by simpa [Lit.wf, hmin, hmax] using hw
  exact ⟨n.toNat, by rw [Int.toNat_of_nonneg hb.1], by omega⟩
end
end Go.Proofs.Ytmioocddmlfboaa
/-
  Matching: the row of MatchingMore.
  Conditions: none.
-/
namespace Go.Proofs.Ytmioocddmlfboaa
open Go Bf
open Go.ChangeShapes Go.WideShapes Go.ChangeAt Go.RowKit
set_option maxRecDepth 100000 in
theorem more_lifted (os : Os) (started : os.Started) (H : Type) (enc : TypeId × Value → H) :
    ReturnsInHanded {} Try.checked os 7 .any (Rows.matchingMoreSpec.pre6 enc Try.prog Try.f7 Rows.matchingMoreRow.domain false) (Rows.matchingMoreSpec.post enc Try.prog Try.f7 false true false false) :=
  lift_true (C := Try.checked) (ts := [22, 23, 23, 5, 5, 3, 43]) (tb := 4) started ownT' (by kernel_rfl) Try.func7
    (ChangeSpec.witness6 (enc := enc) (C := Try.checked) false ⟨#[], #[.slice none 0 0, .slice none 0 0, .slice none 0 0, .int .u8 0, .int .u8 0, .int .i64 0, .slice none 0 0], []⟩ 8 (by kernel_rfl) (by kernel_rfl) (by kernel_rfl) (by kernel_rfl))
    (by rw [Try.params7]) laidT' (by kernel_rfl) rfl (fun ds h => match ds, h with | [_, _, _, _, _, _, _], _ => rfl) rfl Try.underlying4
    (fun W base vs hl ha => by
      obtain ⟨v0, v1, v2, v3, v4, v5, v6, rfl⟩ := len7 hl
      obtain ⟨a, aA, ac, rfl, ha_⟩ := arg_rows (ha 0 22 v0 rfl rfl)
      obtain ⟨b, bA, bc, rfl, hb, rb⟩ := arg_ints (ha 1 23 v1 rfl rfl)
      obtain ⟨c, cA, cc, rfl, hc, rc⟩ := arg_ints (ha 2 23 v2 rfl rfl)
      obtain ⟨d, rfl, hd⟩ := arg_u8 (ha 3 5 v3 rfl rfl)
      obtain ⟨e, rfl, he⟩ := arg_u8 (ha 4 5 v4 rfl rfl)
      obtain ⟨f, rfl, hf1, hf2⟩ := arg_int (ha 5 3 v5 rfl rfl)
      obtain ⟨g, gA, gc, rfl, hg⟩ := arg_bools (ha 6 43 v6 rfl rfl)
      exact more_fn _ aA bA cA gA ac bc cc gc a b c d e f g ha_ hb hc hg rb rc hd he ⟨hf1, hf2⟩)
theorem matchingMore_holds : Rows.MatchingMoreSaid :=
  OpenClaim.holds_of_wide 7 Try.f7 rfl rfl rfl rfl rfl rfl rfl ⟨rfl, rfl, rfl, rfl, rfl⟩ rfl rfl rfl rfl rfl (by kernel_rfl) Try.func7 (by kernel_rfl)
    (of_decide_eq_true (by kernel_rfl)) (by unfold Func.isWrapper; first | (rw [if_pos (by decide +kernel)]; kernel_rfl) | (rw [if_neg (by decide +kernel)]; exact ⟨rfl, rfl⟩))
    (fun os started H enc _ => more_lifted os started H enc)
end Go.Proofs.Ytmioocddmlfboaa
