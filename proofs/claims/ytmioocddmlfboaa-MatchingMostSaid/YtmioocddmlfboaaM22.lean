/-
  Matching: the contract of the program's Cut.
  Conditions: none.
-/
import Derived.Test.YtmioocddmlfboaaM19
namespace Go.Proofs.Ytmioocddmlfboaa
open Go Bf
attribute [local irreducible] Tr Exec Stab HasTy Go.Addr.add IntKind.wrap
/-- the list is strictly ascending and within the requests, up to i -/
def AscTo (m : Nat) (l : List Int) (i : Nat) : Prop := ∀ q x, q < i → l[q]? = some x → 0 ≤ x ∧ x < m ∧ ∀ y, 0 < q → l[q - 1]? = some y → y < x
def cutNeed (need : List Int) (l : List Int) : Int := (l.map fun x => need.getD x.toNat 0).sum
def cutTouch (row : List Bool) (l : List Int) : Bool := l.any fun x => row.getD x.toNat false
def cutHave (fits : List (List Bool)) (sup : List Int) (l : List Int) (i : Nat) : Int := sumN i fun k => if cutTouch (fits.getD k []) l then sup.getD k 0 else 0
def CutP (fits : List (List Bool)) (sup need l : List Int) : Prop := AscTo need.length l l.length ∧ cutHave fits sup l sup.length < cutNeed need l
def CutR (fits : List (List Bool)) (sup need l : List Int) (r : Value) : Prop :=
  (validF fits sup need = false ∧ r = .tuple #[.bool false, .int .i64 300]) ∨ (Vld fits sup need ∧ ∃ b : Bool, r = .tuple #[.bool b, .int .i64 0] ∧ (b = true ↔ CutP fits sup need l))
theorem CutR.no {fits : List (List Bool)} {sup need l : List Int} (hv : Vld fits sup need) (h : ¬ AscTo need.length l l.length) : CutR fits sup need l (.tuple #[.bool false, .int .i64 0]) := .inr ⟨hv, false, rfl, by simp [CutP, h]⟩
theorem AscTo.step {m i : Nat} {l : List Int} {x : Int} (h : AscTo m l i) (hx : l[i]? = some x) (h1 : 0 ≤ x ∧ x < m) (h2 : ∀ y, 0 < i → l[i - 1]? = some y → y < x) : AscTo m l (i + 1) := fun q z hq hz => by
  by_cases e : q = i
  · subst e
    rw [hx] at hz
    cases hz
    exact ⟨h1.1, h1.2, h2⟩
  · exact h q z (by omega) hz
theorem AscTo.ge {m : Nat} {l : List Int} : ∀ {i : Nat}, AscTo m l i → i ≤ l.length → ∀ x, 0 < i → l[i - 1]? = some x → (i : Int) - 1 ≤ x ∧ x < m
  | 0, _, _, _, h, _ => by omega
  | i + 1, h, hl, x, _, hx => by
    simp only [Nat.add_sub_cancel] at hx
    have h1 := h i x (by omega) hx
    by_cases e : i = 0
    · subst e; exact ⟨by simpa using h1.1, h1.2.1⟩
    · obtain ⟨y, hy⟩ := get_of_lt (xs := l) (i := i - 1) (by omega)
      have h2 := AscTo.ge (i := i) (fun q z hq hz => h q z (by omega) hz) (by omega) y (by omega) hy
      have h3 := h1.2.2 y (by omega) hy
      exact ⟨by push_cast; omega, h1.2.1⟩
theorem AscTo.count {m i : Nat} {l : List Int} (h : AscTo m l i) (hl : i ≤ l.length) : i ≤ m := by
  by_cases e : i = 0
  · omega
  · obtain ⟨y, hy⟩ := get_of_lt (xs := l) (i := i - 1) (by omega)
    have := h.ge hl y (by omega) hy
    omega
theorem cutNeed_succ {need l : List Int} {i : Nat} {x : Int} (hx : l[i]? = some x) : cutNeed need (l.take (i + 1)) = cutNeed need (l.take i) + need.getD x.toNat 0 := by
  unfold cutNeed
  rw [List.take_add_one, hx]
  simp
theorem cutNeed_rng {need : List Int} (h : ∀ x ∈ need, 0 ≤ x ∧ x ≤ 1048576) : ∀ (l : List Int), 0 ≤ cutNeed need l ∧ cutNeed need l ≤ 1048576 * l.length
  | [] => by simp [cutNeed]
  | x :: l => by
    have h1 := cutNeed_rng h l
    have h2 := getD_rng h x.toNat
    have e : cutNeed need (x :: l) = need.getD x.toNat 0 + cutNeed need l := rfl
    rw [e, List.length_cons]
    push_cast
    omega
theorem cutHave_rng {fits : List (List Bool)} {sup : List Int} (h : ∀ x ∈ sup, 0 ≤ x ∧ x ≤ 1048576) (l : List Int) (i : Nat) : 0 ≤ cutHave fits sup l i ∧ cutHave fits sup l i ≤ 1048576 * i := sum_small (fun k _ => by
  have := getD_rng h k
  split
  · exact this
  · exact ⟨Int.le_refl _, by decide⟩)
theorem cutHave_succ (fits : List (List Bool)) (sup l : List Int) (i : Nat) : cutHave fits sup l (i + 1) = cutHave fits sup l i + if cutTouch (fits.getD i []) l then sup.getD i 0 else 0 := rfl
set_option maxHeartbeats 1000000 in
theorem cut1_fn (M : Mem) (rb : Nat) (B : Option Addr) (k : Nat) (row : List Bool) (hb : (box rb 43 [.slice B row.length k]).ok M) (hB : Bools M (.slice B row.length k) row) (x : Int) (h0 : 0 ≤ x) (h1 : x < row.length) :
    Fn0 Try.prog 28 ([.int .i64 x] ++ [.pointer (some ⟨rb, 0, none⟩)]) M (fun r M' => r = .bool (row.getD x.toNat false) ∧ M = M') := by
  obtain ⟨n, rfl⟩ : ∃ n : Nat, x = (n : Int) := ⟨x.toNat, by omega⟩
  obtain ⟨v, hv⟩ := get_of_lt (xs := row) (i := n) (by omega)
  obtain ⟨hA, hat⟩ := hB.at hv
  have hl := hB.len_le
  have hrow := Row.of_box (n := 1) (sz := 1) hb (by simp) (by simp [Value.oneCell'])
  have hat2 := (hrow.pos (by decide)).2
  refine Fn.intro Try.func28 rfl rfl Try.ntmps28 rfl fun E F => ?_
  simp only [List.cons_append, List.nil_append]
  repeat (first | ((with_reducible refine Tr.step rfl ?_); (first | ((with_reducible refine Knd.move ?_); (refine Exec.stab rfl (Stab.move rfl) rfl ?_)) | ((with_reducible refine Knd.assign ?_); (refine Exec.stab rfl (Stab.assign rfl) rfl ?_)) | ((with_reducible refine Knd.load ?_); ((refine Exec.stab rfl (Stab.loadM rfl (tysOk.get rfl) rfl (by assumption)) rfl ?_))) | ((with_reducible refine Knd.indexAddr ?_); ((refine Exec.stab rfl (Stab.indexAddr rfl rfl (tysOk.get rfl) rfl (tysOk.get rfl) rfl (by omega) (by omega) (by first | rfl | assumption)) rfl ?_))))) | (with_reducible refine Tr.next ?_) | (with_reducible refine Tr.seq ?_) | (with_reducible refine Tr.region ?_) | (with_reducible refine Tr.nil ?_) | (with_reducible refine Tr.ret ?_))
  (refine Tr.done (by first | exact .inl rfl | exact .inr rfl) rfl (by repeat (first | exact RVs.nil | (apply RVs.cons; (exact RV.tmp rfl)))) (by first | exact Mem.le.refl _ | assumption) (by exact ⟨[], rfl⟩) ⟨rfl, ?_⟩)
  exact ⟨by rw [Int.toNat_natCast, getD_of hv]; rfl, rfl⟩
theorem touch_lend (M : Mem) (rb : Nat) (B : Option Addr) (k : Nat) (row : List Bool) (hB : Bools M (.slice B row.length k) row) (A : Option Addr) (c : Nat) (l : List Int) (hl : Ints M (.slice A l.length c) l) (hx : ∀ x ∈ l, 0 ≤ x ∧ x < row.length) :
    Bf.Fn Try.prog 27 [.slice A l.length c, .func (.func 28) #[] #[.pointer (some ⟨rb, 0, none⟩)]] M [box rb 43 [.slice B row.length k]] (fun r M' A' => A' = [box rb 43 [.slice B row.length k]] ∧ M = M' ∧ r = .bool (cutTouch row l)) :=
  Fn.lend (rs := [box rb 43 [.slice B row.length k]]) (R := fun r => r = .bool (cutTouch row l)) (clone_ok _ _ _ _ _ _ (containsFunc_fn M none 0 [] ⟨_, 0, [], rfl, by simp, by simp, by simp, Row.nil _ _ _, by simp⟩ 0 [] (fun _ => false) (by simp))) (fun M' hm hok =>
    containsFunc_fn M' A c l (hl.mono RI.mono hm) 28 [.pointer (some ⟨rb, 0, none⟩)] (fun x => row.getD x.toNat false) (fun x hxl => cut1_fn M' rb B k row (hok _ (by simp)) (hB.mono RBo.mono hm) x (hx x hxl).1 (hx x hxl).2))
set_option maxHeartbeats 8000000 in
set_option maxRecDepth 20000 in
theorem cut_fn (M : Mem) (A0 A1 A2 A3 : Option Addr) (c0 c1 c2 c3 : Nat) (fits : List (List Bool)) (sup need l : List Int) (hf : Fits2 M (.slice A0 fits.length c0) fits) (hs : Ints M (.slice A1 sup.length c1) sup) (hn : Ints M (.slice A2 need.length c2) need) (hl : Ints M (.slice A3 l.length c3) l) (rs : I64s sup) (rn : I64s need) :
    Fn0 Try.prog 13 [.slice A0 fits.length c0, .slice A1 sup.length c1, .slice A2 need.length c2, .slice A3 l.length c3] M (fun r M' => CutR fits sup need l r ∧ M = M') := by
  have la := hl.len_le
  refine Fn.intro Try.func13 rfl rfl Try.ntmps13 rfl fun E F => ?_
  repeat (first | ((with_reducible refine Tr.step rfl ?_); (first | ((with_reducible refine Knd.move ?_); (refine Exec.stab rfl (Stab.move rfl) rfl ?_)) | ((with_reducible refine Knd.assign ?_); (refine Exec.stab rfl (Stab.assign rfl) rfl ?_)))) | (with_reducible refine Tr.next ?_) | (with_reducible refine Tr.seq ?_) | (with_reducible refine Tr.region ?_) | (with_reducible refine Tr.nil ?_))
  ((refine Tr.step rfl ?_)); refine Exec.call0 rfl (valid_fn M A0 A1 A2 c0 c1 c2 fits sup need hf hs hn rs rn) rfl ?_
  rintro _ _ _ ⟨rfl, rfl⟩
  cases hvv : validF fits sup need
  · repeat (first | ((with_reducible refine Tr.step rfl ?_); (first | ((with_reducible refine Knd.assign ?_); (refine Exec.stab rfl (Stab.assign rfl) rfl ?_)) | ((with_reducible refine Knd.unOp ?_); ((refine Exec.stab rfl (Stab.not rfl) rfl ?_))))) | (with_reducible refine Tr.next ?_) | (with_reducible refine Tr.seq ?_) | (with_reducible refine Tr.region ?_) | (with_reducible refine Tr.nil ?_) | (with_reducible refine Tr.ret ?_) | (with_reducible refine Tr.then_ret ?_) | (refine Tr.cond_bt rfl (by first | (with_reducible rfl) | (with_reducible assumption) | (with_reducible exact Bool.not_true) | (with_reducible exact Bool.not_false)) ?_))
    (refine Tr.done (by first | exact .inl rfl | exact .inr rfl) rfl (by repeat (first | exact RVs.nil | (apply RVs.cons; (exact RV.tmp rfl)))) (by first | exact Mem.le.refl _ | assumption) (by exact ⟨[], rfl⟩) ⟨rfl, ?_⟩)
    exact ⟨.inl ⟨hvv, rfl⟩, rfl⟩
  have hv := vld_iff.1 hvv
  have l1 := hv.ls
  have l2 := hv.ln
  have l3 := hv.lf
  repeat (first | ((with_reducible refine Tr.step rfl ?_); (first | ((with_reducible refine Knd.move ?_); (refine Exec.stab rfl (Stab.move rfl) rfl ?_)) | ((with_reducible refine Knd.assign ?_); (refine Exec.stab rfl (Stab.assign rfl) rfl ?_)) | ((with_reducible refine Knd.len ?_); ((refine Exec.stab rfl (Stab.len rfl (tysOk.get rfl) rfl) rfl ?_))) | ((with_reducible refine Knd.unOp ?_); ((refine Exec.stab rfl (Stab.not rfl) rfl ?_))))) | (with_reducible refine Tr.next ?_) | (with_reducible refine Tr.seq ?_) | (with_reducible refine Tr.region ?_) | (with_reducible refine Tr.nil ?_) | (with_reducible refine Tr.skip ?_) | (with_reducible refine Tr.block ?_) | (refine Tr.cond_bf rfl (by first | (with_reducible rfl) | (with_reducible assumption) | (with_reducible exact Bool.not_true) | (with_reducible exact Bool.not_false)) ?_))
  refine Tr.loop (α := Nat × Int) (fun y => ⟨65, [(24, .int .i64 (y.1 : Int)), (23, .int .i64 (l.length : Int)), (22, .slice A3 l.length c3), (12, .int .i64 y.2), (11, .int .i64 0), (10, .int .i64 (cutNeed need (l.take y.1))), (0, .slice A0 fits.length c0), (1, .slice A1 sup.length c1), (2, .slice A2 need.length c2), (3, .slice A3 l.length c3)], [], M, [] ++ F⟩)
    (fun y => y.1 ≤ l.length ∧ AscTo need.length l y.1 ∧ ((y.1 = 0 ∧ y.2 = -1) ∨ (0 < y.1 ∧ l[y.1 - 1]? = some y.2))) (fun y => l.length - y.1) (0, -1) ⟨Nat.zero_le _, fun _ _ h => by omega, .inl ⟨rfl, rfl⟩⟩ (holds_sub (by repeat (first | exact SubFr.nil | refine SubFr.cons rfl ?_)) (by repeat (first | exact DropL.refl | apply DropL.skip))) (fun y hy => ?_)
  obtain ⟨i, last⟩ := y
  obtain ⟨hi, hasc, hlast⟩ := hy
  simp only at hi hasc hlast
  dsimp only
  have hcnt := hasc.count hi
  have hcn := cutNeed_rng hv.rn (l.take i)
  have htl : (l.take i).length = i := by simp; omega
  rw [htl] at hcn
  by_cases hil : i < l.length
  · obtain ⟨x, hx⟩ := get_of_lt hil
    obtain ⟨hA, hat⟩ := hl.at hx
    have hxi := hasc
    have hl0 : -1 ≤ last := by
      rcases hlast with ⟨h1, h2⟩ | ⟨h1, h2⟩
      · omega
      · have := hasc.ge hi last h1 h2; omega
    by_cases hxl : x ≤ last
    · repeat (first | ((with_reducible refine Tr.step rfl ?_); (first | ((with_reducible refine Knd.move ?_); (refine Exec.stab rfl (Stab.move rfl) rfl ?_)) | ((with_reducible refine Knd.assign ?_); (refine Exec.stab rfl (Stab.assign rfl) rfl ?_)) | ((with_reducible refine Knd.load ?_); ((refine Exec.stab rfl (Stab.loadM rfl (tysOk.get rfl) rfl (by assumption)) rfl ?_))) | ((with_reducible refine Knd.binOp ?_); ((refine Exec.stab rfl (Stab.int rfl rfl rfl) rfl ?_))) | ((with_reducible refine Knd.pick ?_); ((refine Exec.stab rfl (Stab.pick_td rfl (by first | (with_reducible assumption) | (with_reducible rfl) | (with_reducible exact (not_not_intro rfl)) | omega) rfl) rfl ?_))) | ((with_reducible refine Knd.indexAddr ?_); ((refine Exec.stab rfl (Stab.indexAddr rfl rfl (tysOk.get rfl) rfl (tysOk.get rfl) rfl (by omega) (by omega) (by first | rfl | assumption)) rfl ?_))))) | (with_reducible refine Tr.next ?_) | (with_reducible refine Tr.seq ?_) | (with_reducible refine Tr.region ?_) | (with_reducible refine Tr.nil ?_) | (refine Tr.guard_n' rfl rfl rfl (by first | (with_reducible assumption) | (with_reducible rfl) | (with_reducible exact (not_not_intro rfl)) | omega) rfl rfl ?_) | (with_reducible refine Tr.skip ?_) | (with_reducible refine Tr.block ?_) | (with_reducible refine Tr.ret ?_) | (with_reducible refine Tr.then_ret ?_) | (with_reducible refine Tr.in_ret ?_) | (refine Tr.cond_bt rfl (by first | (with_reducible rfl) | (with_reducible assumption) | (with_reducible exact Bool.not_true) | (with_reducible exact Bool.not_false)) ?_) | (refine Tr.cond_t rfl (by first | (with_reducible assumption) | (with_reducible rfl) | (with_reducible exact (not_not_intro rfl)) | omega) ?_))
      (refine Tr.done (by first | exact .inl rfl | exact .inr rfl) rfl (by repeat (first | exact RVs.nil | (apply RVs.cons; (exact RV.tmp rfl)))) (by first | exact Mem.le.refl _ | assumption) (by exact ⟨[], rfl⟩) ⟨rfl, ?_⟩)
      refine ⟨CutR.no hv fun h => ?_, rfl⟩
      have h1 := h i x hil hx
      rcases hlast with ⟨h2, h3⟩ | ⟨h2, h3⟩
      · omega
      · have := h1.2.2 last h2 h3; omega
    by_cases hxm : need.length ≤ x
    · repeat (first | ((with_reducible refine Tr.step rfl ?_); (first | ((with_reducible refine Knd.move ?_); (refine Exec.stab rfl (Stab.move rfl) rfl ?_)) | ((with_reducible refine Knd.assign ?_); (refine Exec.stab rfl (Stab.assign rfl) rfl ?_)) | ((with_reducible refine Knd.load ?_); ((refine Exec.stab rfl (Stab.loadM rfl (tysOk.get rfl) rfl (by assumption)) rfl ?_))) | ((with_reducible refine Knd.binOp ?_); ((refine Exec.stab rfl (Stab.int rfl rfl rfl) rfl ?_))) | ((with_reducible refine Knd.pick ?_); ((refine Exec.stab rfl (Stab.pick_fd rfl (by first | (with_reducible assumption) | (with_reducible rfl) | (with_reducible exact (not_not_intro rfl)) | omega) rfl) rfl ?_))) | ((with_reducible refine Knd.indexAddr ?_); ((refine Exec.stab rfl (Stab.indexAddr rfl rfl (tysOk.get rfl) rfl (tysOk.get rfl) rfl (by omega) (by omega) (by first | rfl | assumption)) rfl ?_))))) | (with_reducible refine Tr.next ?_) | (with_reducible refine Tr.seq ?_) | (with_reducible refine Tr.region ?_) | (with_reducible refine Tr.nil ?_) | ((refine Tr.guard_y' rfl rfl rfl (by first | (with_reducible assumption) | (with_reducible rfl) | (with_reducible exact (not_not_intro rfl)) | omega) ?_); (first | ((with_reducible refine Knd.move ?_); (refine Exec.stab rfl (Stab.move rfl) rfl ?_)) | ((with_reducible refine Knd.len ?_); ((refine Exec.stab rfl (Stab.len rfl (tysOk.get rfl) rfl) rfl ?_))) | ((with_reducible refine Knd.binOp ?_); ((refine Exec.stab rfl (Stab.int rfl rfl rfl) rfl ?_))))) | (with_reducible refine Tr.skip ?_) | (with_reducible refine Tr.block ?_) | (with_reducible refine Tr.ret ?_) | (with_reducible refine Tr.then_ret ?_) | (with_reducible refine Tr.in_ret ?_) | (refine Tr.cond_t rfl (by first | (with_reducible assumption) | (with_reducible rfl) | (with_reducible exact (not_not_intro rfl)) | omega) ?_))
      (refine Tr.done (by first | exact .inl rfl | exact .inr rfl) rfl (by repeat (first | exact RVs.nil | (apply RVs.cons; (exact RV.tmp rfl)))) (by first | exact Mem.le.refl _ | assumption) (by exact ⟨[], rfl⟩) ⟨rfl, ?_⟩)
      refine ⟨CutR.no hv fun h => ?_, rfl⟩
      have h1 := h i x hil hx
      omega
    obtain ⟨n, rfl⟩ : ∃ n : Nat, x = (n : Int) := ⟨x.toNat, by omega⟩
    obtain ⟨v, hv1⟩ := get_of_lt (xs := need) (i := n) (by omega)
    obtain ⟨hA2, nat2⟩ := hn.at hv1
    have hvr := hv.rn v (List.mem_of_getElem? hv1)
    have hsu := cutNeed_succ (need := need) hx
    rw [Int.toNat_natCast, getD_of hv1] at hsu
    repeat (first | ((with_reducible refine Tr.step rfl ?_); (first | ((with_reducible refine Knd.move ?_); (refine Exec.stab rfl (Stab.move rfl) rfl ?_)) | ((with_reducible refine Knd.assign ?_); (refine Exec.stab rfl (Stab.assign rfl) rfl ?_)) | ((with_reducible refine Knd.load ?_); ((refine Exec.stab rfl (Stab.loadM rfl (tysOk.get rfl) rfl (by assumption)) rfl ?_))) | ((with_reducible refine Knd.binOp ?_); (first | (refine Exec.stab rfl (Stab.addi rfl rfl (by omega)) rfl ?_) | (refine Exec.stab rfl (Stab.int rfl rfl rfl) rfl ?_))) | ((with_reducible refine Knd.pick ?_); ((refine Exec.stab rfl (Stab.pick_fd rfl (by first | (with_reducible assumption) | (with_reducible rfl) | (with_reducible exact (not_not_intro rfl)) | omega) rfl) rfl ?_))) | ((with_reducible refine Knd.indexAddr ?_); ((refine Exec.stab rfl (Stab.indexAddr rfl rfl (tysOk.get rfl) rfl (tysOk.get rfl) rfl (by omega) (by omega) (by first | rfl | assumption)) rfl ?_))))) | (with_reducible refine Tr.next ?_) | (with_reducible refine Tr.seq ?_) | (with_reducible refine Tr.region ?_) | (with_reducible refine Tr.nil ?_) | ((refine Tr.guard_y' rfl rfl rfl (by first | (with_reducible assumption) | (with_reducible rfl) | (with_reducible exact (not_not_intro rfl)) | omega) ?_); (first | ((with_reducible refine Knd.move ?_); (refine Exec.stab rfl (Stab.move rfl) rfl ?_)) | ((with_reducible refine Knd.len ?_); ((refine Exec.stab rfl (Stab.len rfl (tysOk.get rfl) rfl) rfl ?_))) | ((with_reducible refine Knd.binOp ?_); ((refine Exec.stab rfl (Stab.int rfl rfl rfl) rfl ?_))))) | (with_reducible refine Tr.skip ?_) | (with_reducible refine Tr.block ?_) | (with_reducible refine Tr.in_normal ?_) | (refine Tr.cond_t rfl (by first | (with_reducible assumption) | (with_reducible rfl) | (with_reducible exact (not_not_intro rfl)) | omega) ?_) | (refine Tr.cond_f rfl (by first | (with_reducible assumption) | (with_reducible rfl) | (with_reducible exact (not_not_intro rfl)) | omega) ?_))
    rw [← hsu]
    refine Tr.again (i + 1, (n : Int)) ⟨by simp only; omega, hasc.step hx (by omega) (fun y h1 h2 => ?_), .inr ⟨by simp only; omega, by simpa using hx⟩⟩ (by simp only; omega) (holds_sub (by repeat (first | exact SubFr.nil | refine SubFr.cons rfl ?_)) (by repeat (first | exact DropL.refl | apply DropL.skip)))
    rcases hlast with ⟨h3, h4⟩ | ⟨h3, h4⟩
    · omega
    · rw [h4] at h2; cases h2; omega
  have ei : i = l.length := by omega
  subst ei
  rw [List.take_length] at hcn ⊢
  have hmem : ∀ x ∈ l, 0 ≤ x ∧ x < need.length := fun x hx => by
    obtain ⟨q, hq⟩ := List.mem_iff_getElem?.1 hx
    have := hasc q x (List.getElem?_eq_some_iff.1 hq).1 hq
    exact ⟨this.1, this.2.1⟩
  repeat (first | ((with_reducible refine Tr.step rfl ?_); (first | ((with_reducible refine Knd.move ?_); (refine Exec.stab rfl (Stab.move rfl) rfl ?_)) | ((with_reducible refine Knd.len ?_); ((refine Exec.stab rfl (Stab.len rfl (tysOk.get rfl) rfl) rfl ?_))) | ((with_reducible refine Knd.binOp ?_); ((refine Exec.stab rfl (Stab.int rfl rfl rfl) rfl ?_))))) | (with_reducible refine Tr.next ?_) | (with_reducible refine Tr.seq ?_) | (with_reducible refine Tr.region ?_) | (with_reducible refine Tr.nil ?_) | (with_reducible refine Tr.block ?_) | (with_reducible refine Tr.exit ?_) | (with_reducible refine Tr.then_exit ?_) | ((with_reducible refine Tr.in_exit ?_ ?_); (exact rfl)) | (refine Tr.cond_f rfl (by first | (with_reducible assumption) | (with_reducible rfl) | (with_reducible exact (not_not_intro rfl)) | omega) ?_))
  refine Tr.loop (α := Nat) (fun y => ⟨65, [(47, .int .i64 (y : Int)), (46, .int .i64 (fits.length : Int)), (45, .slice A0 fits.length c0), (11, .int .i64 (cutHave fits sup l y)), (10, .int .i64 (cutNeed need l)), (1, .slice A1 sup.length c1), (3, .slice A3 l.length c3)], [], M, [] ++ F⟩)
    (fun y => y ≤ fits.length) (fun y => fits.length - y) 0 (Nat.zero_le _) (holds_sub (by repeat (first | exact SubFr.nil | refine SubFr.cons rfl ?_)) (by repeat (first | exact DropL.refl | apply DropL.skip))) (fun y hy => ?_)
  have hch := cutHave_rng (fits := fits) hv.rs l y
  by_cases hyn : y < fits.length
  · obtain ⟨frow, hfr⟩ := get_of_lt hyn
    have hfrl := hv.rows frow (List.mem_of_getElem? hfr)
    obtain ⟨hA0, fch, fat, fB, fk, rfl, hfB⟩ := hf.elem hfr
    obtain ⟨s, hs1⟩ := get_of_lt (xs := sup) (i := y) (by omega)
    obtain ⟨hA1, sat⟩ := hs.at hs1
    have hsr := hv.rs s (List.mem_of_getElem? hs1)
    have hsu := cutHave_succ fits sup l y
    rw [getD_of (d := []) hfr, getD_of (d := 0) hs1] at hsu
    repeat (first | ((with_reducible refine Tr.step rfl ?_); (first | ((with_reducible refine Knd.move ?_); (refine Exec.stab rfl (Stab.move rfl) rfl ?_)) | ((with_reducible refine Knd.assign ?_); (refine Exec.stab rfl (Stab.assign rfl) rfl ?_)) | ((with_reducible refine Knd.load ?_); ((refine Exec.stab rfl (Stab.loadM rfl (tysOk.get rfl) rfl (by assumption)) rfl ?_))) | ((with_reducible refine Knd.makeFunc ?_); (refine Exec.stab rfl (Stab.makeFunc rfl rfl) rfl ?_)) | ((with_reducible refine Knd.binOp ?_); ((refine Exec.stab rfl (Stab.int rfl rfl rfl) rfl ?_))) | ((with_reducible refine Knd.store ?_); ((refine Exec.store rfl rfl (tysOk.get rfl) rfl (by first | rfl | assumption) (by repeat (first | exact Upd.here | apply Upd.there)) (by repeat (first | exact SetL.z | apply SetL.s)) ?_))) | ((with_reducible refine Knd.alloc ?_); (first | (refine Exec.alloc (tysOk.get rfl) rfl rfl (fun b => ?_)) | (refine Exec.alloc1 (tysOk.get rfl) rfl rfl rfl (fun b => ?_)))) | ((with_reducible refine Knd.indexAddr ?_); ((refine Exec.stab rfl (Stab.indexAddr rfl rfl (tysOk.get rfl) rfl (tysOk.get rfl) rfl (by omega) (by omega) (by first | rfl | assumption)) rfl ?_))))) | (with_reducible refine Tr.next ?_) | (with_reducible refine Tr.seq ?_) | (with_reducible refine Tr.region ?_) | (with_reducible refine Tr.nil ?_) | (with_reducible refine Tr.skip ?_) | (with_reducible refine Tr.block ?_) | (refine Tr.cond_t rfl (by first | (with_reducible assumption) | (with_reducible rfl) | (with_reducible exact (not_not_intro rfl)) | omega) ?_))
    ((refine Tr.step rfl ?_))
    refine Exec.call (A := [box b 43 [.slice fB frow.length fk]]) rfl (touch_lend M b fB fk frow hfB A3 c3 l hl (fun x hx => by rw [hfrl]; exact hmem x hx)) (List.Perm.refl _) rfl ?_
    rintro _ _ _ _ ⟨rfl, rfl, rfl⟩
    cases ht : cutTouch frow l
    · rw [ht] at hsu
      simp only [Bool.false_eq_true, if_false, Int.add_zero] at hsu
      repeat (first | ((with_reducible refine Tr.step rfl ?_); (first | ((with_reducible refine Knd.move ?_); (refine Exec.stab rfl (Stab.move rfl) rfl ?_)) | ((with_reducible refine Knd.binOp ?_); ((refine Exec.stab rfl (Stab.addi rfl rfl (by omega)) rfl ?_))))) | (with_reducible refine Tr.next ?_) | (with_reducible refine Tr.region ?_) | (with_reducible refine Tr.nil ?_) | (with_reducible refine Tr.skip ?_) | (with_reducible refine Tr.in_normal ?_) | (refine Tr.cond_bf rfl (by first | (with_reducible rfl) | (with_reducible assumption) | (with_reducible exact Bool.not_true) | (with_reducible exact Bool.not_false)) ?_))
      rw [← hsu]
      refine Tr.give (r := box _ 43 _) (by repeat (first | exact Del.here | apply Del.there)) ?_
      refine Tr.again (y + 1) hyn (by omega) (holds_sub (by repeat (first | exact SubFr.nil | refine SubFr.cons rfl ?_)) (by repeat (first | exact DropL.refl | apply DropL.skip)))
    · rw [ht] at hsu
      simp only [if_true] at hsu
      repeat (first | ((with_reducible refine Tr.step rfl ?_); (first | ((with_reducible refine Knd.move ?_); (refine Exec.stab rfl (Stab.move rfl) rfl ?_)) | ((with_reducible refine Knd.assign ?_); (refine Exec.stab rfl (Stab.assign rfl) rfl ?_)) | ((with_reducible refine Knd.load ?_); ((refine Exec.stab rfl (Stab.loadM rfl (tysOk.get rfl) rfl (by assumption)) rfl ?_))) | ((with_reducible refine Knd.binOp ?_); ((refine Exec.stab rfl (Stab.addi rfl rfl (by omega)) rfl ?_))) | ((with_reducible refine Knd.indexAddr ?_); ((refine Exec.stab rfl (Stab.indexAddr rfl rfl (tysOk.get rfl) rfl (tysOk.get rfl) rfl (by omega) (by omega) (by first | rfl | assumption)) rfl ?_))))) | (with_reducible refine Tr.next ?_) | (with_reducible refine Tr.region ?_) | (with_reducible refine Tr.nil ?_) | (with_reducible refine Tr.in_normal ?_) | (refine Tr.cond_bt rfl (by first | (with_reducible rfl) | (with_reducible assumption) | (with_reducible exact Bool.not_true) | (with_reducible exact Bool.not_false)) ?_))
      rw [← hsu]
      refine Tr.give (r := box _ 43 _) (by repeat (first | exact Del.here | apply Del.there)) ?_
      refine Tr.again (y + 1) hyn (by omega) (holds_sub (by repeat (first | exact SubFr.nil | refine SubFr.cons rfl ?_)) (by repeat (first | exact DropL.refl | apply DropL.skip)))
  · have ey : y = fits.length := by omega
    subst ey
    repeat (first | ((with_reducible refine Tr.step rfl ?_); (first | ((with_reducible refine Knd.move ?_); (refine Exec.stab rfl (Stab.move rfl) rfl ?_)) | ((with_reducible refine Knd.assign ?_); (refine Exec.stab rfl (Stab.assign rfl) rfl ?_)) | ((with_reducible refine Knd.binOp ?_); ((refine Exec.stab rfl (Stab.int rfl rfl rfl) rfl ?_))))) | (with_reducible refine Tr.next ?_) | (with_reducible refine Tr.seq ?_) | (with_reducible refine Tr.region ?_) | (with_reducible refine Tr.nil ?_) | (with_reducible refine Tr.exit ?_) | (with_reducible refine Tr.ret ?_) | (with_reducible refine Tr.then_exit ?_) | ((with_reducible refine Tr.in_exit ?_ ?_); (exact rfl)) | (refine Tr.cond_f rfl (by first | (with_reducible assumption) | (with_reducible rfl) | (with_reducible exact (not_not_intro rfl)) | omega) ?_))
    (refine Tr.done (by first | exact .inl rfl | exact .inr rfl) rfl (by repeat (first | exact RVs.nil | (apply RVs.cons; (exact RV.tmp rfl)))) (by first | exact Mem.le.refl _ | assumption) (by exact ⟨[], rfl⟩) ⟨rfl, ?_⟩)
    refine ⟨.inr ⟨hv, _, rfl, ?_⟩, rfl⟩
    rw [decide_eq_true_eq, l3]
    exact ⟨fun h => ⟨hasc, h⟩, fun h => h.2⟩
end Go.Proofs.Ytmioocddmlfboaa
