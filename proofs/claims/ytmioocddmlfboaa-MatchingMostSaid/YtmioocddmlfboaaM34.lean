/-
  Matching: the law MatchingMost walked.
  Conditions: none.
-/
import Derived.Test.YtmioocddmlfboaaM26
import Derived.Test.YtmioocddmlfboaaM24
namespace Go.Proofs.Ytmioocddmlfboaa
open Go Bf
attribute [local irreducible] Tr Exec Stab HasTy Go.Addr.add IntKind.wrap
/-- needs, some of them diminished -/
def lessOf (need cuts : List Int) : List Int := (List.range need.length).map fun i => if i < cuts.length then max 0 (min (need.getD i 0) (cuts.getD i 0)) else need.getD i 0
def lessTo (need cuts : List Int) (i : Nat) : List Int := (List.range need.length).map fun q => if q < i ∧ q < cuts.length then max 0 (min (need.getD q 0) (cuts.getD q 0)) else need.getD q 0
@[simp] theorem lessTo_length (need cuts : List Int) (i : Nat) : (lessTo need cuts i).length = need.length := by simp [lessTo]
theorem lessTo_get (need cuts : List Int) (i q : Nat) (hq : q < need.length) : (lessTo need cuts i)[q]? = some (if q < i ∧ q < cuts.length then max 0 (min (need.getD q 0) (cuts.getD q 0)) else need.getD q 0) := by simp [lessTo, hq]
theorem lessTo_zero (need cuts : List Int) : lessTo need cuts 0 = need := by
  apply List.ext_getElem?
  intro q
  by_cases hq : q < need.length
  · rw [lessTo_get _ _ _ _ hq, if_neg (by omega)]
    obtain ⟨x, hx⟩ := get_of_lt hq
    rw [hx, getD_of hx]
  · rw [List.getElem?_eq_none (by simp; omega), List.getElem?_eq_none (by omega)]
theorem lessTo_step {need cuts : List Int} {i : Nat} (hi : i < need.length) (hc : i < cuts.length) : lessTo need cuts (i + 1) = (lessTo need cuts i).set i (max 0 (min (need.getD i 0) (cuts.getD i 0))) := by
  apply List.ext_getElem?
  intro q
  by_cases hq : q < need.length
  · rw [lessTo_get _ _ _ _ hq]
    by_cases e : i = q
    · subst e
      rw [List.getElem?_set_self (by simpa using hi), if_pos (by omega)]
    · rw [List.getElem?_set_ne e, lessTo_get _ _ _ _ hq]
      have : q < i + 1 ↔ q < i := by omega
      simp only [this]
  · rw [List.getElem?_eq_none (by simp; omega), List.getElem?_eq_none (by simp; omega)]
theorem lessTo_skip {need cuts : List Int} {i : Nat} (hc : cuts.length ≤ i) : lessTo need cuts (i + 1) = lessTo need cuts i := by
  unfold lessTo
  refine List.map_congr_left fun q _ => ?_
  have : (q < i + 1 ∧ q < cuts.length) ↔ (q < i ∧ q < cuts.length) := by omega
  simp only [this]
theorem lessTo_rng {need : List Int} (cuts : List Int) (h : ∀ x ∈ need, 0 ≤ x ∧ x ≤ 1048576) (i : Nat) : ∀ q, 0 ≤ (lessTo need cuts i).getD q 0 ∧ (lessTo need cuts i).getD q 0 ≤ need.getD q 0 := by
  intro q
  by_cases hq : q < need.length
  · rw [getD_of (lessTo_get _ _ _ _ hq)]
    have := getD_rng h q
    split <;> omega
  · rw [List.getD_eq_getElem?_getD, List.getElem?_eq_none (by simp; omega), List.getD_eq_getElem?_getD, List.getElem?_eq_none (by omega)]
    simp
theorem most_less {fits : List (List Bool)} {sup need cuts : List Int} (hv : Vld fits sup need) {L : Int} (hL : IsLack (pbOf fits sup need) L) {i : Nat} (hf : Feas (pbOf fits sup (lessTo need cuts i))) : (lessTo need cuts i).sum ≤ need.sum - L := by
  obtain ⟨a, ha⟩ := hf
  have hm : (pbOf fits sup (lessTo need cuts i)).m = need.length := lessTo_length _ _ _
  have hfl : Bf.Flow (pbOf fits sup need) a fun b => need.getD b 0 - (lessTo need cuts i).getD b 0 := by
    refine ⟨⟨fun k hk b hb => ha.nn k hk b (by rw [hm]; exact hb), fun k hk b hb h0 => ha.ok k hk b (by rw [hm]; exact hb) h0, fun k hk => ?_⟩, fun b hb => ?_, fun b hb => ?_⟩
    · have := ha.row k hk
      rw [hm] at this
      exact this
    · have h1 : (0 : Int) + colOf (pbOf fits sup need) a b = (lessTo need cuts i).getD b 0 := ha.col b (by rw [hm]; exact hb)
      show need.getD b 0 - (lessTo need cuts i).getD b 0 + colOf (pbOf fits sup need) a b = need.getD b 0
      omega
    · have := (lessTo_rng cuts hv.rn i b).2
      omega
  obtain ⟨⟨D, hD⟩, -⟩ := hL
  have h1 := hfl.lack_le_all D
  have h2 : (sumN (pbOf fits sup need).m fun b => need.getD b 0 - (lessTo need cuts i).getD b 0) = need.sum - (lessTo need cuts i).sum := by
    rw [sumN_list need, sumN_list (lessTo need cuts i), lessTo_length, ← sumN_sub]
    rfl
  omega
set_option maxHeartbeats 8000000 in
set_option maxRecDepth 20000 in
theorem mostlaw_fn (M : Mem) (A0 A1 A2 A4 : Option Addr) (c0 c1 c2 c4 : Nat) (fits : List (List Bool)) (sup need : List Int) (set : Nat) (cuts : List Int) (hf : Fits2 M (.slice A0 fits.length c0) fits) (hs : Ints M (.slice A1 sup.length c1) sup) (hn : Ints M (.slice A2 need.length c2) need) (hc : Ints M (.slice A4 cuts.length c4) cuts) (rs : I64s sup) (rn : I64s need) (hset : set < 65536) :
    Fn0 Try.prog 8 [.slice A0 fits.length c0, .slice A1 sup.length c1, .slice A2 need.length c2, .int .u16 (set : Int), .slice A4 cuts.length c4] M (fun r _ => r = .bool true) := by
  have l0 := hf.len_le
  have l1 := hs.len_le
  have l2 := hn.len_le
  have l4 := hc.len_le
  refine Fn.intro Try.func8 rfl rfl Try.ntmps8 rfl fun E F => ?_
  repeat (first | ((with_reducible refine Tr.step rfl ?_); (((with_reducible refine Knd.assign ?_); (refine Exec.stab rfl (Stab.assign rfl) rfl ?_)))) | (with_reducible refine Tr.next ?_) | (with_reducible refine Tr.seq ?_) | (with_reducible refine Tr.region ?_) | (with_reducible refine Tr.nil ?_))
  ((refine Tr.step rfl ?_)); refine Exec.call0 rfl (sane_fn M) rfl ?_
  rintro _ M1 hm1 rfl
  by_cases g1 : 16 < fits.length
  · repeat (first | ((with_reducible refine Tr.step rfl ?_); (first | ((with_reducible refine Knd.move ?_); (refine Exec.stab rfl (Stab.move rfl) rfl ?_)) | ((with_reducible refine Knd.assign ?_); (refine Exec.stab rfl (Stab.assign rfl) rfl ?_)) | ((with_reducible refine Knd.len ?_); ((refine Exec.stab rfl (Stab.len rfl (tysOk.get rfl) rfl) rfl ?_))) | ((with_reducible refine Knd.binOp ?_); ((refine Exec.stab rfl (Stab.int rfl rfl rfl) rfl ?_))) | ((with_reducible refine Knd.pick ?_); ((refine Exec.stab rfl (Stab.pick_td rfl (by first | (with_reducible assumption) | (with_reducible rfl) | (with_reducible exact (not_not_intro rfl)) | omega) rfl) rfl ?_))) | ((with_reducible refine Knd.unOp ?_); ((refine Exec.stab rfl (Stab.not rfl) rfl ?_))))) | (with_reducible refine Tr.next ?_) | (with_reducible refine Tr.seq ?_) | (with_reducible refine Tr.region ?_) | (with_reducible refine Tr.nil ?_) | (refine Tr.guard_n' rfl rfl rfl (by first | (with_reducible assumption) | (with_reducible rfl) | (with_reducible exact (not_not_intro rfl)) | omega) rfl rfl ?_) | (with_reducible refine Tr.skip ?_) | (with_reducible refine Tr.ret ?_) | (with_reducible refine Tr.then_ret ?_) | (refine Tr.cond_bt rfl (by first | (with_reducible rfl) | (with_reducible assumption) | (with_reducible exact Bool.not_true) | (with_reducible exact Bool.not_false)) ?_) | (refine Tr.cond_bf rfl (by first | (with_reducible rfl) | (with_reducible assumption) | (with_reducible exact Bool.not_true) | (with_reducible exact Bool.not_false)) ?_))
    (refine Tr.done (by first | exact .inl rfl | exact .inr rfl) rfl (by repeat (first | exact RVs.nil | (apply RVs.cons; (exact RV.tmp rfl)))) (by first | exact Mem.le.refl _ | assumption) (by exact ⟨[], rfl⟩) ⟨rfl, ?_⟩)
    rfl
  by_cases g2 : 12 < need.length
  · repeat (first | ((with_reducible refine Tr.step rfl ?_); (first | ((with_reducible refine Knd.move ?_); (refine Exec.stab rfl (Stab.move rfl) rfl ?_)) | ((with_reducible refine Knd.assign ?_); (refine Exec.stab rfl (Stab.assign rfl) rfl ?_)) | ((with_reducible refine Knd.len ?_); ((refine Exec.stab rfl (Stab.len rfl (tysOk.get rfl) rfl) rfl ?_))) | ((with_reducible refine Knd.binOp ?_); ((refine Exec.stab rfl (Stab.int rfl rfl rfl) rfl ?_))) | ((with_reducible refine Knd.pick ?_); ((refine Exec.stab rfl (Stab.pick_fd rfl (by first | (with_reducible assumption) | (with_reducible rfl) | (with_reducible exact (not_not_intro rfl)) | omega) rfl) rfl ?_))) | ((with_reducible refine Knd.unOp ?_); ((refine Exec.stab rfl (Stab.not rfl) rfl ?_))))) | (with_reducible refine Tr.next ?_) | (with_reducible refine Tr.seq ?_) | (with_reducible refine Tr.region ?_) | (with_reducible refine Tr.nil ?_) | ((refine Tr.guard_y' rfl rfl rfl (by first | (with_reducible assumption) | (with_reducible rfl) | (with_reducible exact (not_not_intro rfl)) | omega) ?_); (first | ((with_reducible refine Knd.move ?_); (refine Exec.stab rfl (Stab.move rfl) rfl ?_)) | ((with_reducible refine Knd.len ?_); ((refine Exec.stab rfl (Stab.len rfl (tysOk.get rfl) rfl) rfl ?_))) | ((with_reducible refine Knd.binOp ?_); ((refine Exec.stab rfl (Stab.int rfl rfl rfl) rfl ?_))))) | (with_reducible refine Tr.skip ?_) | (with_reducible refine Tr.ret ?_) | (with_reducible refine Tr.then_ret ?_) | (refine Tr.cond_bf rfl (by first | (with_reducible rfl) | (with_reducible assumption) | (with_reducible exact Bool.not_true) | (with_reducible exact Bool.not_false)) ?_) | (refine Tr.cond_t rfl (by first | (with_reducible assumption) | (with_reducible rfl) | (with_reducible exact (not_not_intro rfl)) | omega) ?_))
    (refine Tr.done (by first | exact .inl rfl | exact .inr rfl) rfl (by repeat (first | exact RVs.nil | (apply RVs.cons; (exact RV.tmp rfl)))) (by first | exact Mem.le.refl _ | assumption) (by exact ⟨[], rfl⟩) ⟨rfl, ?_⟩)
    rfl
  repeat (first | ((with_reducible refine Tr.step rfl ?_); (first | ((with_reducible refine Knd.move ?_); (refine Exec.stab rfl (Stab.move rfl) rfl ?_)) | ((with_reducible refine Knd.len ?_); ((refine Exec.stab rfl (Stab.len rfl (tysOk.get rfl) rfl) rfl ?_))) | ((with_reducible refine Knd.binOp ?_); ((refine Exec.stab rfl (Stab.int rfl rfl rfl) rfl ?_))) | ((with_reducible refine Knd.pick ?_); ((refine Exec.stab rfl (Stab.pick_fd rfl (by first | (with_reducible assumption) | (with_reducible rfl) | (with_reducible exact (not_not_intro rfl)) | omega) rfl) rfl ?_))) | ((with_reducible refine Knd.unOp ?_); ((refine Exec.stab rfl (Stab.not rfl) rfl ?_))))) | (with_reducible refine Tr.next ?_) | (with_reducible refine Tr.seq ?_) | (with_reducible refine Tr.region ?_) | (with_reducible refine Tr.nil ?_) | ((refine Tr.guard_y' rfl rfl rfl (by first | (with_reducible assumption) | (with_reducible rfl) | (with_reducible exact (not_not_intro rfl)) | omega) ?_); (first | ((with_reducible refine Knd.move ?_); (refine Exec.stab rfl (Stab.move rfl) rfl ?_)) | ((with_reducible refine Knd.len ?_); ((refine Exec.stab rfl (Stab.len rfl (tysOk.get rfl) rfl) rfl ?_))) | ((with_reducible refine Knd.binOp ?_); ((refine Exec.stab rfl (Stab.int rfl rfl rfl) rfl ?_))))) | (with_reducible refine Tr.skip ?_) | (refine Tr.cond_bf rfl (by first | (with_reducible rfl) | (with_reducible assumption) | (with_reducible exact Bool.not_true) | (with_reducible exact Bool.not_false)) ?_) | (refine Tr.cond_f rfl (by first | (with_reducible assumption) | (with_reducible rfl) | (with_reducible exact (not_not_intro rfl)) | omega) ?_))
  ((refine Tr.step rfl ?_)); refine Exec.call0 rfl (most2_fn M1 A0 A1 A2 c0 c1 c2 fits sup need (hf.mono RRowB.mono hm1) (hs.mono RI.mono hm1) (hn.mono RI.mono hm1) rs rn) rfl ?_
  rintro r1 _ - ⟨hr1, rfl⟩
  have hfl := flow_fn M1 A0 A1 A2 c0 c1 c2 fits sup need (hf.mono RRowB.mono hm1) (hs.mono RI.mono hm1) (hn.mono RI.mono hm1) rs rn
  rcases hr1 with ⟨hbad, rfl⟩ | ⟨hv, L, rfl, hL⟩
  · repeat (first | ((with_reducible refine Tr.step rfl ?_); (first | ((with_reducible refine Knd.move ?_); (refine Exec.stab rfl (Stab.move rfl) rfl ?_)) | ((with_reducible refine Knd.assign ?_); (refine Exec.stab rfl (Stab.assign rfl) rfl ?_)) | ((with_reducible refine Knd.extract ?_); (refine Exec.stab rfl (Stab.extract rfl rfl) rfl ?_)))) | (with_reducible refine Tr.next ?_) | (with_reducible refine Tr.seq ?_) | (with_reducible refine Tr.region ?_) | (with_reducible refine Tr.nil ?_))
    ((refine Tr.step rfl ?_))
    refine Exec.call0 rfl hfl rfl ?_
    rintro r2 M2 hm2 hr2
    have hM2 := hm1.trans hm2
    obtain rfl : r2 = .tuple #[.slice none 0 0, .bool false, .slice none 0 0, .int .i64 300] := by
      rcases hr2 with ⟨-, h⟩ | ⟨h, -⟩ | ⟨h, -⟩
      · exact h
      · rw [vld_iff.2 h] at hbad; cases hbad
      · rw [vld_iff.2 h] at hbad; cases hbad
    repeat (first | ((with_reducible refine Tr.step rfl ?_); (first | ((with_reducible refine Knd.move ?_); (refine Exec.stab rfl (Stab.move rfl) rfl ?_)) | ((with_reducible refine Knd.assign ?_); (refine Exec.stab rfl (Stab.assign rfl) rfl ?_)) | ((with_reducible refine Knd.binOp ?_); ((refine Exec.stab rfl (Stab.int rfl rfl rfl) rfl ?_))) | ((with_reducible refine Knd.pick ?_); (first | (refine Exec.stab rfl (Stab.pick_td rfl (by first | (with_reducible assumption) | (with_reducible rfl) | (with_reducible exact (not_not_intro rfl)) | omega) rfl) rfl ?_) | (refine Exec.stab rfl (Stab.pick_fd rfl (by first | (with_reducible assumption) | (with_reducible rfl) | (with_reducible exact (not_not_intro rfl)) | omega) rfl) rfl ?_))) | ((with_reducible refine Knd.extract ?_); (refine Exec.stab rfl (Stab.extract rfl rfl) rfl ?_)))) | (with_reducible refine Tr.next ?_) | (with_reducible refine Tr.seq ?_) | (with_reducible refine Tr.region ?_) | (with_reducible refine Tr.nil ?_) | ((refine Tr.guard_y rfl rfl rfl (by first | (with_reducible assumption) | (with_reducible rfl) | (with_reducible exact (not_not_intro rfl)) | omega) ?_); (first | ((with_reducible refine Knd.move ?_); (refine Exec.stab rfl (Stab.move rfl) rfl ?_)) | ((with_reducible refine Knd.binOp ?_); ((refine Exec.stab rfl (Stab.int rfl rfl rfl) rfl ?_))))) | ((refine Tr.guard_y' rfl rfl rfl (by first | (with_reducible assumption) | (with_reducible rfl) | (with_reducible exact (not_not_intro rfl)) | omega) ?_); (first | ((with_reducible refine Knd.move ?_); (refine Exec.stab rfl (Stab.move rfl) rfl ?_)) | ((with_reducible refine Knd.binOp ?_); ((refine Exec.stab rfl (Stab.int rfl rfl rfl) rfl ?_))))) | (with_reducible refine Tr.ret ?_) | (with_reducible refine Tr.then_ret ?_) | (refine Tr.cond_t rfl (by first | (with_reducible assumption) | (with_reducible rfl) | (with_reducible exact (not_not_intro rfl)) | omega) ?_))
    (refine Tr.done (by first | exact .inl rfl | exact .inr rfl) rfl (by repeat (first | exact RVs.nil | (apply RVs.cons; (exact RV.tmp rfl)))) (by first | exact Mem.le.refl _ | assumption) (by exact ⟨[], rfl⟩) ⟨rfl, ?_⟩)
    rfl
  have hL0 := hL.zero hv.sup0 hv.need0
  have hLn : 0 ≤ L := by have := hL.2 fun _ => false; rw [lackOf_none] at this; exact this
  have hnr := sum_rng hv.ln hv.rn
  have v2 := hv.ln
  have hp12 : 2 ^ need.length ≤ 2 ^ 12 := Nat.pow_le_pow_right (by decide) (by omega)
  have hp1 := Nat.two_pow_pos need.length
  obtain ⟨ok, A5, n5, c5, B5, m5, k5, hokf, hflr⟩ : ∃ (ok : Bool) (A5 : Option Addr) (n5 c5 : Nat) (B5 : Option Addr) (m5 k5 : Nat), (ok = true ↔ L = 0) ∧ ∀ r M', FlowR fits sup need r M' → ok = true ∨ ok = false := by
    exact ⟨decide (L = 0), none, 0, 0, none, 0, 0, by simp, fun _ _ _ => by cases decide (L = 0) <;> simp⟩
  clear hflr A5 n5 c5 B5 m5 k5
  have hand : (set : Int).toNat &&& (2 ^ need.length - 1) ≤ 65535 := Nat.le_trans Nat.and_le_left (by omega)
  repeat (first | ((with_reducible refine Tr.step rfl ?_); (first | ((with_reducible refine Knd.move ?_); (refine Exec.stab rfl (Stab.move rfl) rfl ?_)) | ((with_reducible refine Knd.assign ?_); (refine Exec.stab rfl (Stab.assign rfl) rfl ?_)) | ((with_reducible refine Knd.extract ?_); (refine Exec.stab rfl (Stab.extract rfl rfl) rfl ?_)))) | (with_reducible refine Tr.next ?_) | (with_reducible refine Tr.seq ?_) | (with_reducible refine Tr.region ?_) | (with_reducible refine Tr.nil ?_))
  ((refine Tr.step rfl ?_))
  refine Exec.call0 rfl hfl rfl ?_
  rintro r2 M2 hm2 hr2
  have hM2 := hm1.trans hm2
  obtain ⟨A5, n5, c5, B5, m5, k5, rfl⟩ : ∃ (A5 : Option Addr) (n5 c5 : Nat) (B5 : Option Addr) (m5 k5 : Nat), r2 = .tuple #[.slice A5 n5 c5, .bool ok, .slice B5 m5 k5, .int .i64 0] := by
    rcases hr2 with ⟨h, -⟩ | ⟨-, h, B, k, rfl, -⟩ | ⟨-, a, h, A, c, rfl, -⟩
    · rw [vld_iff.2 hv] at h; cases h
    · have : ok = false := by
        cases hok : ok
        · rfl
        · exact absurd (hL0.1 (hokf.1 hok)) h
      exact ⟨_, _, _, _, _, _, by rw [this]⟩
    · have : ok = true := hokf.2 (hL0.2 ⟨a, h.1⟩)
      exact ⟨_, _, _, _, _, _, by rw [this]⟩
  have hn2 : Ints M2 (.slice A2 need.length c2) need := hn.mono RI.mono hM2
  have hc2 : Ints M2 (.slice A4 cuts.length c4) cuts := hc.mono RI.mono hM2
  repeat (first | ((with_reducible refine Tr.step rfl ?_); (first | ((with_reducible refine Knd.move ?_); (refine Exec.stab rfl (Stab.move rfl) rfl ?_)) | ((with_reducible refine Knd.assign ?_); (refine Exec.stab rfl (Stab.assign rfl) rfl ?_)) | ((with_reducible refine Knd.len ?_); ((refine Exec.stab rfl (Stab.len rfl (tysOk.get rfl) rfl) rfl ?_))) | ((with_reducible refine Knd.binOp ?_); ((refine Exec.stab rfl (Stab.int rfl rfl rfl) rfl ?_))) | ((with_reducible refine Knd.pick ?_); ((refine Exec.stab rfl (Stab.pick_fd rfl (by first | (with_reducible assumption) | (with_reducible rfl) | (with_reducible exact (not_not_intro rfl)) | omega) rfl) rfl ?_))) | ((with_reducible refine Knd.extract ?_); (refine Exec.stab rfl (Stab.extract rfl rfl) rfl ?_)))) | (with_reducible refine Tr.next ?_) | (with_reducible refine Tr.seq ?_) | (with_reducible refine Tr.region ?_) | (with_reducible refine Tr.nil ?_) | ((refine Tr.guard_y' rfl rfl rfl (by first | (with_reducible assumption) | (with_reducible rfl) | (with_reducible exact (not_not_intro rfl)) | omega) ?_); (first | ((with_reducible refine Knd.move ?_); (refine Exec.stab rfl (Stab.move rfl) rfl ?_)) | ((with_reducible refine Knd.binOp ?_); ((refine Exec.stab rfl (Stab.int rfl rfl rfl) rfl ?_))))) | (with_reducible refine Tr.skip ?_) | (with_reducible refine Tr.block ?_) | (refine Tr.cond_f rfl (by first | (with_reducible assumption) | (with_reducible rfl) | (with_reducible exact (not_not_intro rfl)) | omega) ?_))
  refine Tr.loop (α := Nat) (fun y => ⟨152, [(69, .int .i64 (y : Int)), (68, .int .i64 (need.length : Int)), (67, .slice A2 need.length c2), (17, .int .i64 ((need.take y).sum)), (14, .bool ok), (11, .int .i64 (need.sum - L)), (0, .slice A0 fits.length c0), (1, .slice A1 sup.length c1), (2, .slice A2 need.length c2), (3, .int .u16 (set : Int)), (4, .slice A4 cuts.length c4)], [], M2, [] ++ F⟩)
    (fun y => y ≤ need.length) (fun y => need.length - y) 0 (Nat.zero_le _) (holds_sub (by repeat (first | exact SubFr.nil | refine SubFr.cons rfl ?_)) (by repeat (first | exact DropL.refl | apply DropL.skip))) (fun y hy => ?_)
  have htr := sum_rng (l := need.take y) (by simp; omega) (fun x hx => hv.rn x (List.mem_of_mem_take hx))
  by_cases hyn : y < need.length
  · obtain ⟨x, hx⟩ := get_of_lt hyn
    obtain ⟨hA, hat⟩ := hn2.at hx
    have hxr := hv.rn x (List.mem_of_getElem? hx)
    have hsu : (need.take (y + 1)).sum = (need.take y).sum + x := by rw [List.take_add_one, hx]; simp
    repeat (first | ((with_reducible refine Tr.step rfl ?_); (first | ((with_reducible refine Knd.move ?_); (refine Exec.stab rfl (Stab.move rfl) rfl ?_)) | ((with_reducible refine Knd.assign ?_); (refine Exec.stab rfl (Stab.assign rfl) rfl ?_)) | ((with_reducible refine Knd.load ?_); ((refine Exec.stab rfl (Stab.loadM rfl (tysOk.get rfl) rfl (by assumption)) rfl ?_))) | ((with_reducible refine Knd.binOp ?_); (first | (refine Exec.stab rfl (Stab.addi rfl rfl (by omega)) rfl ?_) | (refine Exec.stab rfl (Stab.int rfl rfl rfl) rfl ?_))) | ((with_reducible refine Knd.indexAddr ?_); ((refine Exec.stab rfl (Stab.indexAddr rfl rfl (tysOk.get rfl) rfl (tysOk.get rfl) rfl (by omega) (by omega) (by first | rfl | assumption)) rfl ?_))))) | (with_reducible refine Tr.next ?_) | (with_reducible refine Tr.seq ?_) | (with_reducible refine Tr.region ?_) | (with_reducible refine Tr.nil ?_) | (with_reducible refine Tr.skip ?_) | (with_reducible refine Tr.block ?_) | (with_reducible refine Tr.in_normal ?_) | (refine Tr.cond_t rfl (by first | (with_reducible assumption) | (with_reducible rfl) | (with_reducible exact (not_not_intro rfl)) | omega) ?_))
    rw [← hsu]
    refine Tr.again (y + 1) hyn (by omega) (holds_sub (by repeat (first | exact SubFr.nil | refine SubFr.cons rfl ?_)) (by repeat (first | exact DropL.refl | apply DropL.skip)))
  have ey : y = need.length := by omega
  subst ey
  rw [List.take_length] at htr ⊢
  have hneq : ¬ ¬ ok = decide (need.sum - L = need.sum) := by
    rw [Classical.not_not, Bool.eq_iff_iff, decide_eq_true_eq, hokf]
    omega
  generalize hq : 2 ^ need.length = q at hp12 hp1 hand
  have eq1 : (q : Int) - 1 = ((q - 1 : Nat) : Int) := by omega
  have hset' : set &&& (q - 1) ≤ 65535 := Nat.le_trans Nat.and_le_left (by omega)
  have hlb := lackB_range hv (set &&& (q - 1))
  have hlL := hL.2 fun b => (set &&& (q - 1)).testBit b
  rw [← lackB_eq hv] at hlL
  repeat (first | ((with_reducible refine Tr.step rfl ?_); (first | ((with_reducible refine Knd.move ?_); (refine Exec.stab rfl (Stab.move rfl) rfl ?_)) | ((with_reducible refine Knd.binOp ?_); (first | (refine Exec.stab rfl (Stab.int rfl rfl rfl) rfl ?_) | (refine Exec.stab rfl (Stab.boolne rfl rfl (tysOk.get rfl) rfl) rfl ?_))))) | (with_reducible refine Tr.next ?_) | (with_reducible refine Tr.seq ?_) | (with_reducible refine Tr.region ?_) | (with_reducible refine Tr.nil ?_) | ((refine Tr.guard_y' rfl rfl rfl (by first | (with_reducible assumption) | (with_reducible rfl) | (with_reducible exact (not_not_intro rfl)) | omega) ?_); (first | ((with_reducible refine Knd.move ?_); (refine Exec.stab rfl (Stab.move rfl) rfl ?_)) | ((with_reducible refine Knd.len ?_); ((refine Exec.stab rfl (Stab.len rfl (tysOk.get rfl) rfl) rfl ?_))) | ((with_reducible refine Knd.binOp ?_); (first | (refine Exec.stab rfl (Stab.subi rfl rfl (by omega)) rfl ?_) | (refine Exec.stab rfl (Stab.shl1 rfl rfl (by omega)) rfl ?_) | (refine Exec.stab rfl (Stab.int rfl rfl rfl) rfl ?_))) | ((with_reducible refine Knd.convert ?_); ((refine Exec.stab rfl (Stab.convi rfl (tysOk.get rfl) (tysOk.get rfl) rfl rfl (by omega)) rfl ?_))))) | (with_reducible refine Tr.exit ?_) | (with_reducible refine Tr.then_exit ?_) | ((with_reducible refine Tr.in_exit ?_ ?_); (exact rfl)) | (refine Tr.cond_f rfl (by first | (with_reducible assumption) | (with_reducible rfl) | (with_reducible exact (not_not_intro rfl)) | omega) ?_))
  rw [hq]
  repeat (fail)
  rw [eq1]
  repeat (fail)
  rw [show Go.bits .and .i64 (set : Int) ((q - 1 : Nat) : Int) = ((set &&& (q - 1) : Nat) : Int) from and_i64 (show set < 2 ^ 63 by omega) (show q - 1 < 2 ^ 63 by omega)]
  ((refine Tr.guard_y' rfl rfl rfl (by first | (with_reducible assumption) | (with_reducible rfl) | (with_reducible exact (not_not_intro rfl)) | omega) ?_)); refine Exec.call0 rfl (lack_fn M2 A0 A1 A2 c0 c1 c2 fits sup need (hf.mono RRowB.mono hM2) (hs.mono RI.mono hM2) hn2 hv (set &&& (q - 1)) (by omega)) rfl ?_
  rintro _ _ _ ⟨rfl, rfl⟩
  generalize lackB fits sup need (set &&& (q - 1)) = lb at hlb hlL
  repeat (first | ((with_reducible refine Tr.step rfl ?_); (first | ((with_reducible refine Knd.move ?_); (refine Exec.stab rfl (Stab.move rfl) rfl ?_)) | ((with_reducible refine Knd.pick ?_); ((refine Exec.stab rfl (Stab.pick_fd rfl (by first | (with_reducible assumption) | (with_reducible rfl) | (with_reducible exact (not_not_intro rfl)) | omega) rfl) rfl ?_))) | ((with_reducible refine Knd.buildSlice ?_); ((refine Exec.buildSlice (tysOk.get rfl) rfl (tysOk.get rfl) rfl rfl rfl rfl rfl (by repeat (exact BuildP.nil)) rfl (fun b => ?_)))))) | (with_reducible refine Tr.next ?_) | (with_reducible refine Tr.seq ?_) | (with_reducible refine Tr.region ?_) | (with_reducible refine Tr.nil ?_) | ((refine Tr.guard_y' rfl rfl rfl (by first | (with_reducible assumption) | (with_reducible rfl) | (with_reducible exact (not_not_intro rfl)) | omega) ?_); (first | ((with_reducible refine Knd.max ?_); (refine Exec.stab rfl (Stab.max2 rfl rfl) rfl ?_)) | ((with_reducible refine Knd.binOp ?_); (first | (refine Exec.stab rfl (Stab.subi rfl rfl (by omega)) rfl ?_) | (refine Exec.stab rfl (Stab.int rfl rfl rfl) rfl ?_))))) | (with_reducible refine Tr.skip ?_) | (refine Tr.cond_f rfl (by first | (with_reducible assumption) | (with_reducible rfl) | (with_reducible exact (not_not_intro rfl)) | omega) ?_))
  refine Tr.box_own (e := 3) 1 0 (by repeat (first | exact Upd.here | apply Upd.there)) rfl (by intro u hu; cases hu) (by simp [maxLen]) ?_
  ((refine Tr.step rfl ?_))
  refine Exec.append (news := intV need) rfl rfl (tysOk.get rfl) rfl (tysOk.get rfl) rfl rfl rfl rfl (by repeat (first | exact Del.here | apply Del.there)) (Src.row hn2.row) (by simp) (intV_one _) (by omega) (by omega) rfl (fun A6 c6 hc6 => ?_)
  rw [zeros0_app, Nat.zero_add]
  repeat (first | ((with_reducible refine Tr.step rfl ?_); (first | ((with_reducible refine Knd.move ?_); (refine Exec.stab rfl (Stab.move rfl) rfl ?_)) | ((with_reducible refine Knd.assign ?_); (refine Exec.stab rfl (Stab.assign rfl) rfl ?_)) | ((with_reducible refine Knd.len ?_); ((refine Exec.stab rfl (Stab.len rfl (tysOk.get rfl) rfl) rfl ?_))))) | (with_reducible refine Tr.next ?_) | (with_reducible refine Tr.seq ?_) | (with_reducible refine Tr.region ?_) | (with_reducible refine Tr.nil ?_) | (with_reducible refine Tr.block ?_))
  have hfin : ∀ i, i < need.length → (lessTo need cuts (i + 1))[i]? = some ((lessTo need cuts need.length).getD i 0) := fun i hi => by
    rw [lessTo_get _ _ _ _ hi, getD_of (lessTo_get _ _ _ _ hi)]
    have : (i < i + 1 ∧ i < cuts.length) ↔ (i < need.length ∧ i < cuts.length) := by omega
    simp only [this]
  have hfr := fun i => lessTo_rng cuts hv.rn need.length i
  have hts : ∀ i, 0 ≤ sumN i (fun q => (lessTo need cuts need.length).getD q 0) ∧ sumN i (fun q => (lessTo need cuts need.length).getD q 0) ≤ 1048576 * i := fun i => sum_small fun q _ => by
    have h1 := hfr q
    have h2 := getD_rng hv.rn q
    omega
  refine Tr.loop (α := Nat) (fun y => ⟨152, [(105, .int .i64 (y : Int)), (104, .int .i64 (need.length : Int)), (20, .slice A6 need.length c6), (21, .int .i64 (sumN y (fun q => (lessTo need cuts need.length).getD q 0))), (11, .int .i64 (need.sum - L)), (0, .slice A0 fits.length c0), (1, .slice A1 sup.length c1), (4, .slice A4 cuts.length c4)], [], M2, ownS 3 1 A6 need.length c6 (intV (lessTo need cuts y)) :: ([] ++ F)⟩)
    (fun y => y ≤ need.length) (fun y => need.length - y) 0 (Nat.zero_le _) (by rw [lessTo_zero]; exact (holds_sub (by repeat (first | exact SubFr.nil | refine SubFr.cons rfl ?_)) (by repeat (first | exact DropL.refl | apply DropL.skip)))) (fun y hy => ?_)
  have hty := hts y
  by_cases hyn : y < need.length
  · have hg1 := hfin y hyn
    have hg1' := intV_get hg1
    have hr1 := hfr y
    have hr2 := getD_rng hv.rn y
    have hil : (intV (lessTo need cuts y)).length = need.length := by simp
    have hsu : sumN (y + 1) (fun q => (lessTo need cuts need.length).getD q 0) = sumN y (fun q => (lessTo need cuts need.length).getD q 0) + (lessTo need cuts need.length).getD y 0 := rfl
    refine Tr.own_some A6 (by repeat (first | exact Has.here | apply Has.there)) (by omega) (fun hA6 => ?_)
    by_cases hyc : y < cuts.length
    · obtain ⟨cv, hcv⟩ := get_of_lt hyc
      obtain ⟨hA4, cat⟩ := hc2.at hcv
      have hg0 : (lessTo need cuts y)[y]? = some (need.getD y 0) := by
        rw [lessTo_get _ _ _ _ hyn, if_neg (by omega)]
      have hg0' := intV_get hg0
      have hst := lessTo_step hyn hyc
      rw [getD_of hcv] at hst
      repeat (first | ((with_reducible refine Tr.step rfl ?_); (first | ((with_reducible refine Knd.move ?_); (refine Exec.stab rfl (Stab.move rfl) rfl ?_)) | ((with_reducible refine Knd.assign ?_); (refine Exec.stab rfl (Stab.assign rfl) rfl ?_)) | ((with_reducible refine Knd.len ?_); ((refine Exec.stab rfl (Stab.len rfl (tysOk.get rfl) rfl) rfl ?_))) | ((with_reducible refine Knd.binOp ?_); ((refine Exec.stab rfl (Stab.int rfl rfl rfl) rfl ?_))))) | (with_reducible refine Tr.next ?_) | (with_reducible refine Tr.seq ?_) | (with_reducible refine Tr.region ?_) | (with_reducible refine Tr.nil ?_) | (with_reducible refine Tr.skip ?_) | (with_reducible refine Tr.block ?_) | (refine Tr.cond_t rfl (by first | (with_reducible assumption) | (with_reducible rfl) | (with_reducible exact (not_not_intro rfl)) | omega) ?_))
      (((apply Tr.draw); (kernel_rfl)); (refine TrA.take 0 (by kernel_rfl) rfl (by kernel_rfl) (by first | exact fun _ _ _ h => h | exact fun _ _ _ h => nomatch h.1) (by exact fun _ h => h) rfl (by first | exact Stab.move rfl) rfl rfl ?_); (refine TrA.take 1 (by kernel_rfl) rfl (by kernel_rfl) (by first | exact fun _ _ _ h => h | exact fun _ _ _ h => nomatch h.1) (by exact fun _ h => h) rfl (by first | exact Stab.move rfl) rfl rfl ?_); (refine TrA.take 2 (by kernel_rfl) rfl (by kernel_rfl) (by first | exact fun _ _ _ h => h | exact fun _ _ _ h => nomatch h.1) (by exact fun _ h => h) rfl (by first | exact Stab.move rfl) rfl rfl ?_); (refine TrA.take 3 (by kernel_rfl) rfl (by kernel_rfl) (by first | exact fun _ _ _ h => h | exact fun _ _ _ h => nomatch h.1) (by exact fun _ h => h) rfl (by first | exact Stab.move rfl) rfl rfl ?_); (refine TrA.take 6 (by kernel_rfl) rfl (by kernel_rfl) (by first | exact fun _ _ _ h => h | exact fun _ _ _ h => nomatch h.1) (by exact fun _ h => h) rfl (by first | exact Stab.move rfl) rfl rfl ?_); (refine TrA.take 7 (by kernel_rfl) rfl (by kernel_rfl) (by first | exact fun _ _ _ h => h | exact fun _ _ _ h => nomatch h.1) (by exact fun _ h => h) rfl (by first | exact Stab.move rfl) rfl rfl ?_); (refine TrA.take 4 (by kernel_rfl) rfl (by kernel_rfl) (by first | exact fun _ _ _ h => h | exact fun _ _ _ h => nomatch h.1) (by exact fun _ h => h) rfl (by exact Stab.indexAddr rfl rfl (tysOk.get rfl) rfl (tysOk.get rfl) rfl (by omega) (by omega) (by first | rfl | assumption)) rfl rfl ?_); (refine TrA.take 8 (by kernel_rfl) rfl (by kernel_rfl) (by first | exact fun _ _ _ h => h | exact fun _ _ _ h => nomatch h.1) (by exact fun _ h => h) rfl (by exact Stab.indexAddr rfl rfl (tysOk.get rfl) rfl (tysOk.get rfl) rfl (by omega) (by omega) (by first | rfl | assumption)) rfl rfl ?_); (refine TrA.take 5 (by kernel_rfl) rfl (by kernel_rfl) (by first | exact fun _ _ _ h => h | exact fun _ _ _ h => nomatch h.1) (by exact fun _ h => h) rfl (by exact Stab.loadO rfl (tysOk.get rfl) rfl (by repeat (first | exact Has.here | apply Has.there)) (by assumption)) rfl rfl ?_); (refine TrA.take 9 (by kernel_rfl) rfl (by kernel_rfl) (by first | exact fun _ _ _ h => h | exact fun _ _ _ h => nomatch h.1) (by exact fun _ h => h) rfl (by exact Stab.loadM rfl (tysOk.get rfl) rfl (by assumption)) rfl rfl ?_); (refine TrA.take 10 (by kernel_rfl) rfl (by kernel_rfl) (by first | exact fun _ _ _ h => h | exact fun _ _ _ h => nomatch h.1) (by exact fun _ h => h) rfl (by first | exact Stab.min2 rfl rfl) rfl rfl ?_); (refine TrA.take 11 (by kernel_rfl) rfl (by kernel_rfl) (by first | exact fun _ _ _ h => h | exact fun _ _ _ h => nomatch h.1) (by exact fun _ h => h) rfl (by first | exact Stab.max2 rfl rfl) rfl rfl ?_); (refine TrA.take 12 (by kernel_rfl) rfl (by kernel_rfl) (by first | exact fun _ _ _ h => h | exact fun _ _ _ h => nomatch h.1) (by exact fun _ h => h) rfl (by exact Stab.indexAddr rfl rfl (tysOk.get rfl) rfl (tysOk.get rfl) rfl (by omega) (by omega) (by first | rfl | assumption)) rfl rfl ?_); (refine TrA.effD 13 rfl (by kernel_rfl) (by kernel_rfl) (by first | exact .inl rfl | exact .inr ⟨_, _, _, rfl, rfl, rfl⟩) ?_); (((refine Knd.store ?_); ((refine Exec.storeO rfl rfl (tysOk.get rfl) rfl (by first | rfl | assumption) (by repeat (first | exact Upd.here | apply Upd.there)) (by omega) ?_)))); (refine ⟨_, fun _ h => h, ?_⟩); (refine TrA.done (by kernel_rfl) ?_))
      rw [intV_set, Int.toNat_natCast y, ← hst]
      repeat (first | ((with_reducible refine Tr.step rfl ?_); (first | ((with_reducible refine Knd.move ?_); (refine Exec.stab rfl (Stab.move rfl) rfl ?_)) | ((with_reducible refine Knd.assign ?_); (refine Exec.stab rfl (Stab.assign rfl) rfl ?_)) | ((with_reducible refine Knd.load ?_); ((refine Exec.stab rfl (Stab.loadO rfl (tysOk.get rfl) rfl (by repeat (first | exact Has.here | apply Has.there)) (by assumption)) rfl ?_))) | ((with_reducible refine Knd.binOp ?_); ((refine Exec.stab rfl (Stab.addi rfl rfl (by omega)) rfl ?_))) | ((with_reducible refine Knd.indexAddr ?_); ((refine Exec.stab rfl (Stab.indexAddr rfl rfl (tysOk.get rfl) rfl (tysOk.get rfl) rfl (by omega) (by omega) (by first | rfl | assumption)) rfl ?_))))) | (with_reducible refine Tr.next ?_) | (with_reducible refine Tr.region ?_) | (with_reducible refine Tr.nil ?_) | (with_reducible refine Tr.in_normal ?_))
      rw [← hsu]
      refine Tr.again (y + 1) hyn (by omega) (holds_sub (by repeat (first | exact SubFr.nil | refine SubFr.cons rfl ?_)) (by repeat (first | exact DropL.refl | apply DropL.skip)))
    · have hst := lessTo_skip (need := need) (cuts := cuts) (i := y) (by omega)
      rw [← hst]
      repeat (first | ((with_reducible refine Tr.step rfl ?_); (first | ((with_reducible refine Knd.move ?_); (refine Exec.stab rfl (Stab.move rfl) rfl ?_)) | ((with_reducible refine Knd.assign ?_); (refine Exec.stab rfl (Stab.assign rfl) rfl ?_)) | ((with_reducible refine Knd.load ?_); ((refine Exec.stab rfl (Stab.loadO rfl (tysOk.get rfl) rfl (by repeat (first | exact Has.here | apply Has.there)) (by assumption)) rfl ?_))) | ((with_reducible refine Knd.len ?_); ((refine Exec.stab rfl (Stab.len rfl (tysOk.get rfl) rfl) rfl ?_))) | ((with_reducible refine Knd.binOp ?_); (first | (refine Exec.stab rfl (Stab.addi rfl rfl (by omega)) rfl ?_) | (refine Exec.stab rfl (Stab.int rfl rfl rfl) rfl ?_))) | ((with_reducible refine Knd.indexAddr ?_); ((refine Exec.stab rfl (Stab.indexAddr rfl rfl (tysOk.get rfl) rfl (tysOk.get rfl) rfl (by omega) (by omega) (by first | rfl | assumption)) rfl ?_))))) | (with_reducible refine Tr.next ?_) | (with_reducible refine Tr.seq ?_) | (with_reducible refine Tr.region ?_) | (with_reducible refine Tr.nil ?_) | (with_reducible refine Tr.skip ?_) | (with_reducible refine Tr.block ?_) | (with_reducible refine Tr.in_normal ?_) | (refine Tr.cond_t rfl (by first | (with_reducible assumption) | (with_reducible rfl) | (with_reducible exact (not_not_intro rfl)) | omega) ?_) | (refine Tr.cond_f rfl (by first | (with_reducible assumption) | (with_reducible rfl) | (with_reducible exact (not_not_intro rfl)) | omega) ?_))
      rw [← hsu]
      refine Tr.again (y + 1) hyn (by omega) (holds_sub (by repeat (first | exact SubFr.nil | refine SubFr.cons rfl ?_)) (by repeat (first | exact DropL.refl | apply DropL.skip)))
  have ey : y = need.length := by omega
  subst ey
  have hls := sumN_list (lessTo need cuts need.length)
  rw [lessTo_length] at hls
  rw [← hls]
  repeat (first | ((with_reducible refine Tr.step rfl ?_); (first | ((with_reducible refine Knd.move ?_); (refine Exec.stab rfl (Stab.move rfl) rfl ?_)) | ((with_reducible refine Knd.binOp ?_); ((refine Exec.stab rfl (Stab.int rfl rfl rfl) rfl ?_))))) | (with_reducible refine Tr.next ?_) | (with_reducible refine Tr.seq ?_) | (with_reducible refine Tr.region ?_) | (with_reducible refine Tr.nil ?_) | (with_reducible refine Tr.exit ?_) | (with_reducible refine Tr.then_exit ?_) | ((with_reducible refine Tr.in_exit ?_ ?_); (exact rfl)) | (refine Tr.cond_f rfl (by first | (with_reducible assumption) | (with_reducible rfl) | (with_reducible exact (not_not_intro rfl)) | omega) ?_))
  refine Tr.publish (r := ownS 3 1 A6 _ _ _) (by repeat (first | exact Del.here | apply Del.there)) (fun M3 hm3 hok => ?_)
  have hM3 := hM2.trans hm3
  have hI : Ints M3 (.slice A6 (lessTo need cuts need.length).length c6) (lessTo need cuts need.length) := Ints.ofOwn hok (by simp) hc6
  have hlr : ∀ x ∈ lessTo need cuts need.length, 0 ≤ x ∧ x ≤ 1048576 := fun x hx => by
    obtain ⟨i, hi⟩ := List.mem_iff_getElem?.1 hx
    have h1 := hfr i
    have h2 := getD_rng hv.rn i
    rw [getD_of hi] at h1
    omega
  have hvl : Vld fits sup (lessTo need cuts need.length) := ⟨hv.ls, by simpa using hv.ln, hv.lf, fun r hr => by simpa using hv.rows r hr, hv.rs, hlr⟩
  have hf2 := flow_fn M3 A0 A1 A6 c0 c1 c6 fits sup (lessTo need cuts need.length) (hf.mono RRowB.mono hM3) (hs.mono RI.mono hM3) hI rs (fun x hx => by have := hlr x hx; omega)
  rw [lessTo_length] at hf2
  ((refine Tr.step rfl ?_))
  refine Exec.call0 rfl hf2 rfl ?_
  rintro r3 M4 hm4 hr3
  have hM4 := hM3.trans hm4
  rcases hr3 with ⟨h, -⟩ | ⟨-, h, B, k, rfl, -⟩ | ⟨-, a, h, A, c, rfl, -⟩
  · rw [vld_iff.2 hvl] at h; cases h
  · repeat (first | ((with_reducible refine Tr.step rfl ?_); (first | ((with_reducible refine Knd.move ?_); (refine Exec.stab rfl (Stab.move rfl) rfl ?_)) | ((with_reducible refine Knd.assign ?_); (refine Exec.stab rfl (Stab.assign rfl) rfl ?_)) | ((with_reducible refine Knd.binOp ?_); ((refine Exec.stab rfl (Stab.int rfl rfl rfl) rfl ?_))) | ((with_reducible refine Knd.pick ?_); ((refine Exec.stab rfl (Stab.pick_td rfl (by first | (with_reducible assumption) | (with_reducible rfl) | (with_reducible exact (not_not_intro rfl)) | omega) rfl) rfl ?_))) | ((with_reducible refine Knd.extract ?_); (refine Exec.stab rfl (Stab.extract rfl rfl) rfl ?_)))) | (with_reducible refine Tr.next ?_) | (with_reducible refine Tr.seq ?_) | (with_reducible refine Tr.region ?_) | (with_reducible refine Tr.nil ?_) | (refine Tr.guard_s0 rfl rfl rfl (by first | (with_reducible rfl) | (with_reducible assumption) | (with_reducible exact Bool.not_true) | (with_reducible exact Bool.not_false)) rfl rfl ?_) | ((refine Tr.guard_y rfl rfl rfl (by first | (with_reducible assumption) | (with_reducible rfl) | (with_reducible exact (not_not_intro rfl)) | omega) ?_); (first | ((with_reducible refine Knd.move ?_); (refine Exec.stab rfl (Stab.move rfl) rfl ?_)) | ((with_reducible refine Knd.pick ?_); ((refine Exec.stab rfl (Stab.pick_t rfl (by first | (with_reducible rfl) | (with_reducible assumption) | (with_reducible exact Bool.not_true) | (with_reducible exact Bool.not_false)) rfl) rfl ?_))) | ((with_reducible refine Knd.unOp ?_); ((refine Exec.stab rfl (Stab.not rfl) rfl ?_))))) | (with_reducible refine Tr.ret ?_))
    (refine Tr.done (by first | exact .inl rfl | exact .inr rfl) rfl (by repeat (first | exact RVs.nil | (apply RVs.cons; (exact RV.tmp rfl)))) (by first | exact Mem.le.refl _ | assumption) (by exact ⟨[], rfl⟩) ⟨rfl, ?_⟩)
    rfl
  · have hle := most_less hv hL ⟨a, h.1⟩
    repeat (first | ((with_reducible refine Tr.step rfl ?_); (first | ((with_reducible refine Knd.move ?_); (refine Exec.stab rfl (Stab.move rfl) rfl ?_)) | ((with_reducible refine Knd.assign ?_); (refine Exec.stab rfl (Stab.assign rfl) rfl ?_)) | ((with_reducible refine Knd.binOp ?_); ((refine Exec.stab rfl (Stab.int rfl rfl rfl) rfl ?_))) | ((with_reducible refine Knd.pick ?_); ((refine Exec.stab rfl (Stab.pick_td rfl (by first | (with_reducible assumption) | (with_reducible rfl) | (with_reducible exact (not_not_intro rfl)) | omega) rfl) rfl ?_))) | ((with_reducible refine Knd.extract ?_); (refine Exec.stab rfl (Stab.extract rfl rfl) rfl ?_)))) | (with_reducible refine Tr.next ?_) | (with_reducible refine Tr.seq ?_) | (with_reducible refine Tr.region ?_) | (with_reducible refine Tr.nil ?_) | ((refine Tr.guard_l rfl rfl rfl (by first | (with_reducible rfl) | (with_reducible assumption) | (with_reducible exact Bool.not_true) | (with_reducible exact Bool.not_false)) ?_); (first | ((with_reducible refine Knd.move ?_); (refine Exec.stab rfl (Stab.move rfl) rfl ?_)) | ((with_reducible refine Knd.binOp ?_); ((refine Exec.stab rfl (Stab.int rfl rfl rfl) rfl ?_))))) | ((refine Tr.guard_y rfl rfl rfl (by first | (with_reducible assumption) | (with_reducible rfl) | (with_reducible exact (not_not_intro rfl)) | omega) ?_); (first | ((with_reducible refine Knd.move ?_); (refine Exec.stab rfl (Stab.move rfl) rfl ?_)) | ((with_reducible refine Knd.pick ?_); ((refine Exec.stab rfl (Stab.pick_f rfl (by first | (with_reducible rfl) | (with_reducible assumption) | (with_reducible exact Bool.not_true) | (with_reducible exact Bool.not_false)) rfl) rfl ?_))) | ((with_reducible refine Knd.unOp ?_); ((refine Exec.stab rfl (Stab.not rfl) rfl ?_))))) | (with_reducible refine Tr.ret ?_))
    (refine Tr.done (by first | exact .inl rfl | exact .inr rfl) rfl (by repeat (first | exact RVs.nil | (apply RVs.cons; (exact RV.tmp rfl)))) (by first | exact Mem.le.refl _ | assumption) (by exact ⟨[], rfl⟩) ⟨rfl, ?_⟩)
    show Value.bool (decide _) = _
    rw [decide_eq_true hle]
end Go.Proofs.Ytmioocddmlfboaa
