/-
  Matching: the contracts of the reference's cut and room, and of copies.
  Conditions: none.
-/
import Derived.Test.YtmioocddmlfboaaM5
import Derived.Test.YtmioocddmlfboaaBfLend
namespace Go.Proofs.Ytmioocddmlfboaa
open Go Bf
attribute [local irreducible] Tr Exec Stab HasTy Go.Addr.add IntKind.wrap
/-- requests are left out, from the last one on, if the others can't be met either -/
noncomputable def cutS (P : Nat → Prop) : Nat → Nat → Nat
  | 0, s => s
  | r + 1, s => open Classical in cutS P r (if P (s - 2 ^ r) then s else s - 2 ^ r)
theorem cutS_le (P : Nat → Prop) : ∀ (r s : Nat), cutS P r s ≤ s
  | 0, s => Nat.le_refl _
  | r + 1, s => by
    unfold cutS
    refine Nat.le_trans (cutS_le P r _) ?_
    split
    · exact Nat.le_refl _
    · exact Nat.sub_le _ _
/-- the cut of a problem -/
noncomputable def cutOfP (fits : List (List Bool)) (sup need : List Int) : Nat := cutS (Poss fits sup need) need.length (2 ^ need.length - 1)
set_option maxHeartbeats 4000000 in
theorem rcut_fn (M : Mem) (A0 A1 A2 : Option Addr) (c0 c1 c2 : Nat) (fits : List (List Bool)) (sup need : List Int) (hf : Fits2 M (.slice A0 fits.length c0) fits) (hs : Ints M (.slice A1 sup.length c1) sup) (hn : Ints M (.slice A2 need.length c2) need) (hv : Vld fits sup need) (hn62 : need.length ≤ 61) :
    Fn0 Try.prog 34 [.slice A0 fits.length c0, .slice A1 sup.length c1, .slice A2 need.length c2] M (fun r M' => (Poss fits sup need (2 ^ need.length - 1) ∧ r = .tuple #[.slice none 0 0, .bool false]) ∨
      (¬ Poss fits sup need (2 ^ need.length - 1) ∧ ∃ B k, r = .tuple #[.slice B (memI (cutOfP fits sup need) need.length).length k, .bool true] ∧ Ints M' (.slice B (memI (cutOfP fits sup need) need.length).length k) (memI (cutOfP fits sup need) need.length))) := by
  have hp1 := Nat.two_pow_pos need.length
  have hp2 : 2 ^ need.length ≤ 2 ^ 61 := Nat.pow_le_pow_right (by decide) hn62
  have f1 := possible_fn M A0 A1 A2 c0 c1 c2 fits sup need hf hs hn hv
  have f2 := fun s (hs : s < 4611686018427387904) => members_fn M s need.length hs (by omega)
  unfold cutOfP
  generalize hq : 2 ^ need.length = q at hp1 hp2 ⊢
  refine Fn.intro Try.func34 rfl rfl Try.ntmps34 rfl fun E F => ?_
  repeat (first | ((with_reducible refine Tr.step rfl ?_); (first | ((with_reducible refine Knd.move ?_); (refine Exec.stab rfl (Stab.move rfl) rfl ?_)) | ((with_reducible refine Knd.assign ?_); (refine Exec.stab rfl (Stab.assign rfl) rfl ?_)) | ((with_reducible refine Knd.len ?_); ((refine Exec.stab rfl (Stab.len rfl (tysOk.get rfl) rfl) rfl ?_))) | ((with_reducible refine Knd.binOp ?_); (first | (refine Exec.stab rfl (Stab.subi rfl rfl (by omega)) rfl ?_) | (refine Exec.stab rfl (Stab.shl1 rfl rfl (by omega)) rfl ?_))))) | (with_reducible refine Tr.next ?_) | (with_reducible refine Tr.seq ?_) | (with_reducible refine Tr.region ?_) | (with_reducible refine Tr.nil ?_))
  rw [hq]
  repeat (fail)
  have eq1 : (q : Int) - 1 = ((q - 1 : Nat) : Int) := by omega
  rw [eq1]
  ((refine Tr.step rfl ?_)); refine Exec.call0 rfl (f1 (q - 1) (by omega)) rfl ?_
  rintro _ _ _ ⟨⟨b, rfl, hb⟩, rfl⟩
  cases b
  rotate_left
  · repeat (first | ((with_reducible refine Tr.step rfl ?_); (((with_reducible refine Knd.assign ?_); (refine Exec.stab rfl (Stab.assign rfl) rfl ?_)))) | (with_reducible refine Tr.next ?_) | (with_reducible refine Tr.seq ?_) | (with_reducible refine Tr.region ?_) | (with_reducible refine Tr.nil ?_) | (with_reducible refine Tr.ret ?_) | (with_reducible refine Tr.then_ret ?_) | (refine Tr.cond_bt rfl (by first | (with_reducible rfl) | (with_reducible assumption) | (with_reducible exact Bool.not_true) | (with_reducible exact Bool.not_false)) ?_))
    (refine Tr.done (by first | exact .inl rfl | exact .inr rfl) rfl (by repeat (first | exact RVs.nil | (apply RVs.cons; (exact RV.tmp rfl)))) (by first | exact Mem.le.refl _ | assumption) (by exact ⟨[], rfl⟩) ⟨rfl, ?_⟩)
    exact .inl ⟨hb.1 rfl, rfl⟩
  have hnp : ¬ Poss fits sup need (q - 1) := fun h => by have := hb.2 h; cases this
  repeat (first | ((with_reducible refine Tr.step rfl ?_); (first | ((with_reducible refine Knd.move ?_); (refine Exec.stab rfl (Stab.move rfl) rfl ?_)) | ((with_reducible refine Knd.assign ?_); (refine Exec.stab rfl (Stab.assign rfl) rfl ?_)) | ((with_reducible refine Knd.len ?_); ((refine Exec.stab rfl (Stab.len rfl (tysOk.get rfl) rfl) rfl ?_))) | ((with_reducible refine Knd.binOp ?_); ((refine Exec.stab rfl (Stab.subi rfl rfl (by omega)) rfl ?_))))) | (with_reducible refine Tr.next ?_) | (with_reducible refine Tr.seq ?_) | (with_reducible refine Tr.region ?_) | (with_reducible refine Tr.nil ?_) | (with_reducible refine Tr.skip ?_) | (with_reducible refine Tr.block ?_) | (refine Tr.cond_bf rfl (by first | (with_reducible rfl) | (with_reducible assumption) | (with_reducible exact Bool.not_true) | (with_reducible exact Bool.not_false)) ?_))
  refine Tr.loop (α := Nat × Nat) (fun y => ⟨43, [(9, .int .i64 ((y.1 : Int) - 1)), (8, .int .i64 (y.2 : Int)), (0, .slice A0 fits.length c0), (1, .slice A1 sup.length c1), (2, .slice A2 need.length c2)], [], M, [] ++ F⟩) (fun y => y.1 ≤ need.length ∧ y.2 ≤ q - 1 ∧ 2 ^ y.1 ≤ y.2 + 1 ∧ cutS (Poss fits sup need) y.1 y.2 = cutS (Poss fits sup need) need.length (q - 1)) (fun y => y.1) (need.length, q - 1) ⟨by simp, by simp, by simp only; omega, rfl⟩ (holds_sub (by repeat (first | exact SubFr.nil | refine SubFr.cons rfl ?_)) (by repeat (first | exact DropL.refl | apply DropL.skip))) (fun y hy => ?_)
  obtain ⟨i, s⟩ := y
  obtain ⟨h1, h2, h3, h4⟩ := hy
  simp only at h1 h2 h3 h4
  dsimp only
  rcases i with _ | i
  · repeat (first | ((with_reducible refine Tr.step rfl ?_); (first | ((with_reducible refine Knd.move ?_); (refine Exec.stab rfl (Stab.move rfl) rfl ?_)) | ((with_reducible refine Knd.len ?_); ((refine Exec.stab rfl (Stab.len rfl (tysOk.get rfl) rfl) rfl ?_))) | ((with_reducible refine Knd.binOp ?_); ((refine Exec.stab rfl (Stab.int rfl rfl rfl) rfl ?_))))) | (with_reducible refine Tr.next ?_) | (with_reducible refine Tr.seq ?_) | (with_reducible refine Tr.region ?_) | (with_reducible refine Tr.nil ?_) | (with_reducible refine Tr.exit ?_) | (with_reducible refine Tr.then_exit ?_) | ((with_reducible refine Tr.in_exit ?_ ?_); (exact rfl)) | (refine Tr.cond_f rfl (by first | (with_reducible assumption) | (with_reducible rfl) | (with_reducible exact (not_not_intro rfl)) | omega) ?_))
    ((refine Tr.step rfl ?_)); refine Exec.call0 rfl (f2 s (by omega)) rfl ?_
    rintro _ M1 hm1 ⟨B, k, rfl, hl⟩
    have e : s = cutS (Poss fits sup need) need.length (q - 1) := by rw [← h4]; rfl
    rw [← e]
    repeat (first | ((with_reducible refine Tr.step rfl ?_); (((with_reducible refine Knd.assign ?_); (refine Exec.stab rfl (Stab.assign rfl) rfl ?_)))) | (with_reducible refine Tr.next ?_) | (with_reducible refine Tr.nil ?_) | (with_reducible refine Tr.ret ?_))
    (refine Tr.done (by first | exact .inl rfl | exact .inr rfl) rfl (by repeat (first | exact RVs.nil | (apply RVs.cons; (exact RV.tmp rfl)))) (by first | exact Mem.le.refl _ | assumption) (by exact ⟨[], rfl⟩) ⟨rfl, ?_⟩)
    exact .inr ⟨hnp, B, k, rfl, hl⟩
  · have hpi := Nat.two_pow_pos i
    have hps : 2 ^ (i + 1) = 2 * 2 ^ i := by rw [Nat.pow_succ]; omega
    generalize hqi : 2 ^ i = qi at hpi hps
    have ei : ((i + 1 : Nat) : Int) - 1 = (i : Int) := by omega
    rw [ei]
    have es : (s : Int) - (qi : Int) = ((s - qi : Nat) : Int) := by omega
    have hc : cutS (Poss fits sup need) (i + 1) s = open Classical in cutS (Poss fits sup need) i (if Poss fits sup need (s - qi) then s else s - qi) := by rw [cutS, hqi]
    rw [hc] at h4
    repeat (first | ((with_reducible refine Tr.step rfl ?_); (first | ((with_reducible refine Knd.move ?_); (refine Exec.stab rfl (Stab.move rfl) rfl ?_)) | ((with_reducible refine Knd.binOp ?_); (first | (refine Exec.stab rfl (Stab.subi rfl rfl (by omega)) rfl ?_) | (refine Exec.stab rfl (Stab.shl1 rfl rfl (by omega)) rfl ?_) | (refine Exec.stab rfl (Stab.int rfl rfl rfl) rfl ?_))))) | (with_reducible refine Tr.next ?_) | (with_reducible refine Tr.seq ?_) | (with_reducible refine Tr.region ?_) | (with_reducible refine Tr.nil ?_) | (with_reducible refine Tr.skip ?_) | (with_reducible refine Tr.block ?_) | (refine Tr.cond_t rfl (by first | (with_reducible assumption) | (with_reducible rfl) | (with_reducible exact (not_not_intro rfl)) | omega) ?_))
    rw [hqi]
    repeat (fail)
    rw [es]
    ((refine Tr.step rfl ?_)); refine Exec.call0 rfl (f1 (s - qi) (by omega)) rfl ?_
    rintro _ _ _ ⟨⟨b, rfl, hb⟩, rfl⟩
    cases b
    · have : ¬ Poss fits sup need (s - qi) := fun h => by have := hb.2 h; cases this
      rw [if_neg this] at h4
      repeat (first | ((with_reducible refine Tr.step rfl ?_); (first | ((with_reducible refine Knd.move ?_); (refine Exec.stab rfl (Stab.move rfl) rfl ?_)) | ((with_reducible refine Knd.assign ?_); (refine Exec.stab rfl (Stab.assign rfl) rfl ?_)) | ((with_reducible refine Knd.binOp ?_); (first | (refine Exec.stab rfl (Stab.subi rfl rfl (by omega)) rfl ?_) | (refine Exec.stab rfl (Stab.shl1 rfl rfl (by omega)) rfl ?_))) | ((with_reducible refine Knd.unOp ?_); ((refine Exec.stab rfl (Stab.not rfl) rfl ?_))))) | (with_reducible refine Tr.next ?_) | (with_reducible refine Tr.region ?_) | (with_reducible refine Tr.nil ?_) | (with_reducible refine Tr.in_normal ?_) | (refine Tr.cond_bt rfl (by first | (with_reducible rfl) | (with_reducible assumption) | (with_reducible exact Bool.not_true) | (with_reducible exact Bool.not_false)) ?_))
      rw [hqi]
      repeat (fail)
      rw [es]
      refine Tr.again (i, s - qi) ⟨by simp only; omega, by simp only; omega, by simp only; omega, h4⟩ (by simp only; omega) (holds_sub (by repeat (first | exact SubFr.nil | refine SubFr.cons rfl ?_)) (by repeat (first | exact DropL.refl | apply DropL.skip)))
    · rw [if_pos (hb.1 rfl)] at h4
      repeat (first | ((with_reducible refine Tr.step rfl ?_); (first | ((with_reducible refine Knd.move ?_); (refine Exec.stab rfl (Stab.move rfl) rfl ?_)) | ((with_reducible refine Knd.assign ?_); (refine Exec.stab rfl (Stab.assign rfl) rfl ?_)) | ((with_reducible refine Knd.binOp ?_); ((refine Exec.stab rfl (Stab.subi rfl rfl (by omega)) rfl ?_))) | ((with_reducible refine Knd.unOp ?_); ((refine Exec.stab rfl (Stab.not rfl) rfl ?_))))) | (with_reducible refine Tr.next ?_) | (with_reducible refine Tr.region ?_) | (with_reducible refine Tr.nil ?_) | (with_reducible refine Tr.skip ?_) | (with_reducible refine Tr.in_normal ?_) | (refine Tr.cond_bf rfl (by first | (with_reducible rfl) | (with_reducible assumption) | (with_reducible exact Bool.not_true) | (with_reducible exact Bool.not_false)) ?_))
      refine Tr.again (i, s) ⟨by simp only; omega, h2, by simp only; omega, h4⟩ (by simp only; omega) (holds_sub (by repeat (first | exact SubFr.nil | refine SubFr.cons rfl ?_)) (by repeat (first | exact DropL.refl | apply DropL.skip)))
/-- how much of a supply a request can get -/
structure RoomV (can : List (List Bool)) (left op : List Int) (s r : Nat) (top : Nat) (v : Int) : Prop where
  l1 : v ≤ left.getD s 0
  l2 : v ≤ op.getD r 0
  le : ∀ set, 1 ≤ set → set < top → set.testBit r = false → touchB (can.getD s []) set = true → v ≤ - lackB can left op set
  is : v = left.getD s 0 ∨ v = op.getD r 0 ∨ ∃ set, 1 ≤ set ∧ set < top ∧ set.testBit r = false ∧ touchB (can.getD s []) set = true ∧ v = - lackB can left op set
set_option maxHeartbeats 4000000 in
theorem room_fn (M : Mem) (A0 A1 A2 : Option Addr) (c0 c1 c2 : Nat) (can : List (List Bool)) (left op : List Int) (hf : Fits2 M (.slice A0 can.length c0) can) (hs : Ints M (.slice A1 left.length c1) left) (hn : Ints M (.slice A2 op.length c2) op) (hv : Vld can left op) (hn62 : op.length ≤ 61) (s r : Nat) (hsl : s < left.length) (hrl : r < op.length) :
    Fn0 Try.prog 37 [.slice A0 can.length c0, .slice A1 left.length c1, .slice A2 op.length c2, .int .i64 (s : Int), .int .i64 (r : Int)] M (fun x M' => (∃ v, x = .int .i64 v ∧ RoomV can left op s r (2 ^ op.length) v) ∧ M = M') := by
  have hp1 := Nat.two_pow_pos op.length
  have hp2 : 2 ^ op.length ≤ 2 ^ 61 := Nat.pow_le_pow_right (by decide) hn62
  have l3 := hv.lf
  obtain ⟨a, ha⟩ := get_of_lt hsl
  obtain ⟨b, hb⟩ := get_of_lt hrl
  obtain ⟨hA1, hat1⟩ := hs.at ha
  obtain ⟨hA2, hat2⟩ := hn.at hb
  obtain ⟨row, hrow⟩ := get_of_lt (xs := can) (i := s) (by omega)
  obtain ⟨hA0, ch, hat0, B, k, rfl, hB⟩ := hf.elem hrow
  have hrw := hv.rows row (List.mem_of_getElem? hrow)
  have har := hv.rs a (List.mem_of_getElem? ha)
  have hbr := hv.rn b (List.mem_of_getElem? hb)
  have ga := getD_of (d := 0) ha
  have gb := getD_of (d := 0) hb
  have gr := getD_of (d := []) hrow
  generalize hq : 2 ^ op.length = q at hp1 hp2 ⊢
  refine Fn.intro Try.func37 rfl rfl Try.ntmps37 rfl fun E F => ?_
  repeat (first | ((with_reducible refine Tr.step rfl ?_); (((with_reducible refine Knd.assign ?_); (refine Exec.stab rfl (Stab.assign rfl) rfl ?_)))) | (with_reducible refine Tr.next ?_) | (with_reducible refine Tr.seq ?_) | (with_reducible refine Tr.region ?_) | (with_reducible refine Tr.nil ?_))
  (((apply Tr.draw); (kernel_rfl)); (refine TrA.take 0 (by kernel_rfl) rfl (by kernel_rfl) (by first | exact fun _ _ _ h => h | exact fun _ _ _ h => nomatch h.1) (by exact fun _ h => h) rfl (by first | exact Stab.move rfl) rfl rfl ?_); (refine TrA.take 1 (by kernel_rfl) rfl (by kernel_rfl) (by first | exact fun _ _ _ h => h | exact fun _ _ _ h => nomatch h.1) (by exact fun _ h => h) rfl (by first | exact Stab.move rfl) rfl rfl ?_); (refine TrA.take 2 (by kernel_rfl) rfl (by kernel_rfl) (by first | exact fun _ _ _ h => h | exact fun _ _ _ h => nomatch h.1) (by exact fun _ h => h) rfl (by exact Stab.indexAddr rfl rfl (tysOk.get rfl) rfl (tysOk.get rfl) rfl (by omega) (by omega) (by first | rfl | assumption)) rfl rfl ?_); (refine TrA.take 3 (by kernel_rfl) rfl (by kernel_rfl) (by first | exact fun _ _ _ h => h | exact fun _ _ _ h => nomatch h.1) (by exact fun _ h => h) rfl (by exact Stab.loadM rfl (tysOk.get rfl) rfl (by assumption)) rfl rfl ?_); (refine TrA.take 4 (by kernel_rfl) rfl (by kernel_rfl) (by first | exact fun _ _ _ h => h | exact fun _ _ _ h => nomatch h.1) (by exact fun _ h => h) rfl (by first | exact Stab.move rfl) rfl rfl ?_); (refine TrA.take 5 (by kernel_rfl) rfl (by kernel_rfl) (by first | exact fun _ _ _ h => h | exact fun _ _ _ h => nomatch h.1) (by exact fun _ h => h) rfl (by first | exact Stab.move rfl) rfl rfl ?_); (refine TrA.take 6 (by kernel_rfl) rfl (by kernel_rfl) (by first | exact fun _ _ _ h => h | exact fun _ _ _ h => nomatch h.1) (by exact fun _ h => h) rfl (by exact Stab.indexAddr rfl rfl (tysOk.get rfl) rfl (tysOk.get rfl) rfl (by omega) (by omega) (by first | rfl | assumption)) rfl rfl ?_); (refine TrA.take 7 (by kernel_rfl) rfl (by kernel_rfl) (by first | exact fun _ _ _ h => h | exact fun _ _ _ h => nomatch h.1) (by exact fun _ h => h) rfl (by exact Stab.loadM rfl (tysOk.get rfl) rfl (by assumption)) rfl rfl ?_); (refine TrA.take 8 (by kernel_rfl) rfl (by kernel_rfl) (by first | exact fun _ _ _ h => h | exact fun _ _ _ h => nomatch h.1) (by exact fun _ h => h) rfl (by first | exact Stab.min2 rfl rfl) rfl rfl ?_); (refine TrA.take 9 (by kernel_rfl) rfl (by kernel_rfl) (by first | exact fun _ _ _ h => h | exact fun _ _ _ h => nomatch h.1) (by exact fun _ h => h) rfl (by first | exact Stab.assign rfl) rfl rfl ?_); (refine TrA.done (by kernel_rfl) ?_))
  repeat (first | ((with_reducible refine Tr.step rfl ?_); (((with_reducible refine Knd.assign ?_); (refine Exec.stab rfl (Stab.assign rfl) rfl ?_)))) | (with_reducible refine Tr.next ?_) | (with_reducible refine Tr.seq ?_) | (with_reducible refine Tr.region ?_) | (with_reducible refine Tr.nil ?_) | (with_reducible refine Tr.block ?_))
  refine Tr.loop (α := Nat × Int) (fun y => ⟨50, [(12, .int .i64 y.1), (11, .int .i64 y.2), (0, .slice A0 can.length c0), (1, .slice A1 left.length c1), (2, .slice A2 op.length c2), (3, .int .i64 (s : Int)), (4, .int .i64 (r : Int))], [], M, [] ++ F⟩) (fun y => 1 ≤ y.1 ∧ y.1 ≤ q ∧ -200000000 ≤ y.2 ∧ RoomV can left op s r y.1 y.2) (fun y => q - y.1) (1, min a b) ⟨by simp, by simp only; omega, by simp only; omega, ⟨by simp only; omega, by simp only; omega, fun set h1 h2 => by simp only at h2; omega, by simp only; omega⟩⟩ (holds_sub (by repeat (first | exact SubFr.nil | refine SubFr.cons rfl ?_)) (by repeat (first | exact DropL.refl | apply DropL.skip))) (fun y hy => ?_)
  obtain ⟨i, v⟩ := y
  obtain ⟨h1, h2, h3, hm⟩ := hy
  simp only at h1 h2 h3 hm
  dsimp only
  have hv2 : v ≤ 1048576 := by have := hm.l1; omega
  have skip : (i.testBit r = true ∨ touchB row i = false) → RoomV can left op s r (i + 1) v := fun h => ⟨hm.l1, hm.l2, fun set g1 g2 g3 g4 => by
    by_cases e : set = i
    · subst e
      rcases h with h | h
      · rw [h] at g3; cases g3
      · rw [gr, h] at g4; cases g4
    · exact hm.le set g1 (by omega) g3 g4, by
    rcases hm.is with h | h | ⟨set, g1, g2, g3⟩
    · exact .inl h
    · exact .inr (.inl h)
    · exact .inr (.inr ⟨set, g1, by omega, g3⟩)⟩
  by_cases hlt : i < q
  · repeat (first | ((with_reducible refine Tr.step rfl ?_); (first | ((with_reducible refine Knd.move ?_); (refine Exec.stab rfl (Stab.move rfl) rfl ?_)) | ((with_reducible refine Knd.len ?_); ((refine Exec.stab rfl (Stab.len rfl (tysOk.get rfl) rfl) rfl ?_))) | ((with_reducible refine Knd.binOp ?_); (first | (refine Exec.stab rfl (Stab.shl1 rfl rfl (by omega)) rfl ?_) | (refine Exec.stab rfl (Stab.int rfl rfl rfl) rfl ?_))))) | (with_reducible refine Tr.next ?_) | (with_reducible refine Tr.seq ?_) | (with_reducible refine Tr.region ?_) | (with_reducible refine Tr.nil ?_) | (with_reducible refine Tr.skip ?_) | (with_reducible refine Tr.block ?_) | (refine Tr.cond_t rfl (by first | (with_reducible assumption) | (with_reducible rfl) | (with_reducible exact (not_not_intro rfl)) | omega) ?_))
    rw [hq]
    repeat (fail)
    ((refine Tr.step rfl ?_)); refine Exec.call0 rfl (has_fn M i r (by omega) (by have := hv.ln; omega)) rfl ?_
    rintro _ _ _ ⟨rfl, rfl⟩
    cases hbit : i.testBit r
    rotate_left
    · repeat (first | ((with_reducible refine Tr.step rfl ?_); (first | ((with_reducible refine Knd.move ?_); (refine Exec.stab rfl (Stab.move rfl) rfl ?_)) | ((with_reducible refine Knd.assign ?_); (refine Exec.stab rfl (Stab.assign rfl) rfl ?_)) | ((with_reducible refine Knd.binOp ?_); ((refine Exec.stab rfl (Stab.addi rfl rfl (by omega)) rfl ?_))) | ((with_reducible refine Knd.pick ?_); ((refine Exec.stab rfl (Stab.pick_f rfl (by first | (with_reducible rfl) | (with_reducible assumption) | (with_reducible exact Bool.not_true) | (with_reducible exact Bool.not_false)) rfl) rfl ?_))) | ((with_reducible refine Knd.unOp ?_); ((refine Exec.stab rfl (Stab.not rfl) rfl ?_))))) | (with_reducible refine Tr.next ?_) | (with_reducible refine Tr.region ?_) | (with_reducible refine Tr.nil ?_) | (refine Tr.guard_s1 rfl rfl rfl (by first | (with_reducible rfl) | (with_reducible assumption) | (with_reducible exact Bool.not_true) | (with_reducible exact Bool.not_false)) rfl rfl ?_) | (with_reducible refine Tr.skip ?_) | (with_reducible refine Tr.in_normal ?_) | (refine Tr.cond_bf rfl (by first | (with_reducible rfl) | (with_reducible assumption) | (with_reducible exact Bool.not_true) | (with_reducible exact Bool.not_false)) ?_))
      refine Tr.again (i + 1, v) ⟨by simp only; omega, by simp only; omega, h3, skip (.inl hbit)⟩ (by simp only; omega) (holds_sub (by repeat (first | exact SubFr.nil | refine SubFr.cons rfl ?_)) (by repeat (first | exact DropL.refl | apply DropL.skip)))
    repeat (first | ((with_reducible refine Tr.step rfl ?_); (first | ((with_reducible refine Knd.move ?_); (refine Exec.stab rfl (Stab.move rfl) rfl ?_)) | ((with_reducible refine Knd.unOp ?_); ((refine Exec.stab rfl (Stab.not rfl) rfl ?_))))) | ((refine Tr.guard_l rfl rfl rfl (by first | (with_reducible rfl) | (with_reducible assumption) | (with_reducible exact Bool.not_true) | (with_reducible exact Bool.not_false)) ?_); (first | ((with_reducible refine Knd.move ?_); (refine Exec.stab rfl (Stab.move rfl) rfl ?_)) | ((with_reducible refine Knd.load ?_); ((refine Exec.stab rfl (Stab.loadM rfl (tysOk.get rfl) rfl (by assumption)) rfl ?_))) | ((with_reducible refine Knd.indexAddr ?_); ((refine Exec.stab rfl (Stab.indexAddr rfl rfl (tysOk.get rfl) rfl (tysOk.get rfl) rfl (by omega) (by omega) (by first | rfl | assumption)) rfl ?_))))))
    ((refine Tr.guard_l rfl rfl rfl (by first | (with_reducible rfl) | (with_reducible assumption) | (with_reducible exact Bool.not_true) | (with_reducible exact Bool.not_false)) ?_)); refine Exec.call0 rfl (touches_fn M B k row hB (by have := hv.ln; omega) i (by omega)) rfl ?_
    rintro _ _ _ ⟨rfl, rfl⟩
    cases ht : touchB row i
    · repeat (first | ((with_reducible refine Tr.step rfl ?_); (first | ((with_reducible refine Knd.move ?_); (refine Exec.stab rfl (Stab.move rfl) rfl ?_)) | ((with_reducible refine Knd.assign ?_); (refine Exec.stab rfl (Stab.assign rfl) rfl ?_)) | ((with_reducible refine Knd.binOp ?_); ((refine Exec.stab rfl (Stab.addi rfl rfl (by omega)) rfl ?_))) | ((with_reducible refine Knd.pick ?_); ((refine Exec.stab rfl (Stab.pick_t rfl (by first | (with_reducible rfl) | (with_reducible assumption) | (with_reducible exact Bool.not_true) | (with_reducible exact Bool.not_false)) rfl) rfl ?_))))) | (with_reducible refine Tr.next ?_) | (with_reducible refine Tr.region ?_) | (with_reducible refine Tr.nil ?_) | (with_reducible refine Tr.skip ?_) | (with_reducible refine Tr.in_normal ?_) | (refine Tr.cond_bf rfl (by first | (with_reducible rfl) | (with_reducible assumption) | (with_reducible exact Bool.not_true) | (with_reducible exact Bool.not_false)) ?_))
      refine Tr.again (i + 1, v) ⟨by simp only; omega, by simp only; omega, h3, skip (.inr ht)⟩ (by simp only; omega) (holds_sub (by repeat (first | exact SubFr.nil | refine SubFr.cons rfl ?_)) (by repeat (first | exact DropL.refl | apply DropL.skip)))
    have hlr := lackB_range hv i
    repeat (first | ((with_reducible refine Tr.step rfl ?_); (first | ((with_reducible refine Knd.move ?_); (refine Exec.stab rfl (Stab.move rfl) rfl ?_)) | ((with_reducible refine Knd.pick ?_); ((refine Exec.stab rfl (Stab.pick_t rfl (by first | (with_reducible rfl) | (with_reducible assumption) | (with_reducible exact Bool.not_true) | (with_reducible exact Bool.not_false)) rfl) rfl ?_))))) | (with_reducible refine Tr.next ?_) | (with_reducible refine Tr.region ?_) | (with_reducible refine Tr.nil ?_) | (refine Tr.cond_bt rfl (by first | (with_reducible rfl) | (with_reducible assumption) | (with_reducible exact Bool.not_true) | (with_reducible exact Bool.not_false)) ?_))
    ((refine Tr.step rfl ?_)); refine Exec.call0 rfl (lack_fn M A0 A1 A2 c0 c1 c2 can left op hf hs hn hv i (by omega)) rfl ?_
    rintro _ _ _ ⟨rfl, rfl⟩
    repeat (first | ((with_reducible refine Tr.step rfl ?_); (first | ((with_reducible refine Knd.move ?_); (refine Exec.stab rfl (Stab.move rfl) rfl ?_)) | ((with_reducible refine Knd.assign ?_); (refine Exec.stab rfl (Stab.assign rfl) rfl ?_)) | ((with_reducible refine Knd.min ?_); (refine Exec.stab rfl (Stab.min2 rfl rfl) rfl ?_)) | ((with_reducible refine Knd.binOp ?_); ((refine Exec.stab rfl (Stab.addi rfl rfl (by omega)) rfl ?_))) | ((with_reducible refine Knd.unOp ?_); ((refine Exec.stab rfl (Stab.neg rfl (by omega)) rfl ?_))))) | (with_reducible refine Tr.next ?_) | (with_reducible refine Tr.region ?_) | (with_reducible refine Tr.nil ?_) | (with_reducible refine Tr.in_normal ?_))
    refine Tr.again (i + 1, min v (-lackB can left op i)) ⟨by simp only; omega, by simp only; omega, by simp only; omega, ?_⟩ (by simp only; omega) (holds_sub (by repeat (first | exact SubFr.nil | refine SubFr.cons rfl ?_)) (by repeat (first | exact DropL.refl | apply DropL.skip)))
    refine ⟨by have := hm.l1; simp only; omega, by have := hm.l2; simp only; omega, fun set g1 g2 g3 g4 => ?_, ?_⟩
    · simp only at g2 ⊢
      by_cases e : set = i
      · subst e; omega
      · have := hm.le set g1 (by omega) g3 g4; omega
    · simp only
      rcases Int.le_total v (-lackB can left op i) with hle | hle
      · rw [Int.min_eq_left hle]
        rcases hm.is with h | h | ⟨set, g1, g2, g3⟩
        · exact .inl h
        · exact .inr (.inl h)
        · exact .inr (.inr ⟨set, g1, by omega, g3⟩)
      · rw [Int.min_eq_right hle]
        exact .inr (.inr ⟨i, h1, by omega, hbit, by rw [gr]; exact ht, rfl⟩)
  · have e : i = q := by omega
    subst e
    repeat (first | ((with_reducible refine Tr.step rfl ?_); (first | ((with_reducible refine Knd.move ?_); (refine Exec.stab rfl (Stab.move rfl) rfl ?_)) | ((with_reducible refine Knd.assign ?_); (refine Exec.stab rfl (Stab.assign rfl) rfl ?_)) | ((with_reducible refine Knd.len ?_); ((refine Exec.stab rfl (Stab.len rfl (tysOk.get rfl) rfl) rfl ?_))) | ((with_reducible refine Knd.binOp ?_); (first | (refine Exec.stab rfl (Stab.shl1 rfl rfl (by omega)) rfl ?_) | (refine Exec.stab rfl (Stab.int rfl rfl rfl) rfl ?_))))) | (with_reducible refine Tr.next ?_) | (with_reducible refine Tr.seq ?_) | (with_reducible refine Tr.region ?_) | (with_reducible refine Tr.nil ?_) | (with_reducible refine Tr.exit ?_) | (with_reducible refine Tr.ret ?_) | (with_reducible refine Tr.then_exit ?_) | ((with_reducible refine Tr.in_exit ?_ ?_); (exact rfl)) | (refine Tr.cond_f rfl (by first | (with_reducible assumption) | (with_reducible rfl) | (with_reducible exact (not_not_intro rfl)) | omega) ?_))
    rw [hq]
    repeat (fail)
    (refine Tr.done (by first | exact .inl rfl | exact .inr rfl) rfl (by repeat (first | exact RVs.nil | (apply RVs.cons; (exact RV.tmp rfl)))) (by first | exact Mem.le.refl _ | assumption) (by exact ⟨[], rfl⟩) ⟨rfl, ?_⟩)
    exact ⟨⟨v, rfl, hm⟩, rfl⟩
set_option maxHeartbeats 2000000 in
theorem copyInts_fn (M : Mem) (A : Option Addr) (c : Nat) (l : List Int) (hl : Ints M (.slice A l.length c) l) (hs : l.length ≤ 1000000) :
    Bf.Fn Try.prog 35 [.slice A l.length c] M [] (fun r M' A' => ∃ B k, r = .slice B l.length k ∧ k ≤ 9223372036854775807 ∧ M = M' ∧ A' = [ownS 3 1 B l.length k (intV l)]) := by
  have hrow := Ints.row hl
  refine Fn.intro Try.func35 rfl rfl Try.ntmps35 rfl fun E F => ?_
  repeat (first | ((with_reducible refine Tr.step rfl ?_); (first | ((with_reducible refine Knd.move ?_); (refine Exec.stab rfl (Stab.move rfl) rfl ?_)) | ((with_reducible refine Knd.assign ?_); (refine Exec.stab rfl (Stab.assign rfl) rfl ?_)) | ((with_reducible refine Knd.buildSlice ?_); ((refine Exec.buildSlice (tysOk.get rfl) rfl (tysOk.get rfl) rfl rfl rfl rfl rfl (by repeat (exact BuildP.nil)) rfl (fun b => ?_)))))) | (with_reducible refine Tr.next ?_) | (with_reducible refine Tr.seq ?_) | (with_reducible refine Tr.region ?_) | (with_reducible refine Tr.nil ?_))
  refine Tr.box_own 1 0 (by repeat (first | exact Upd.here | apply Upd.there)) rfl (by intro u hu; cases hu) (by simp [maxLen]) ?_
  ((refine Tr.step rfl ?_))
  refine Exec.append (news := intV l) rfl rfl (tysOk.get rfl) rfl (tysOk.get rfl) rfl rfl rfl rfl (by repeat (first | exact Del.here | apply Del.there)) (Src.row hrow) (by simp) (intV_one _) (by omega) (by omega) rfl (fun A6 c6 hc6 => ?_)
  rw [zeros0_app, Nat.zero_add]
  repeat (first | ((with_reducible refine Tr.step rfl ?_); (((with_reducible refine Knd.assign ?_); (refine Exec.stab rfl (Stab.assign rfl) rfl ?_)))) | (with_reducible refine Tr.next ?_) | (with_reducible refine Tr.nil ?_) | (with_reducible refine Tr.ret ?_))
  refine Tr.doneA (A' := [ownS 3 1 A6 l.length c6 (intV l)]) (by first | exact .inl rfl | exact .inr rfl) rfl (by repeat (first | exact RVs.nil | (apply RVs.cons; (exact RV.tmp rfl)))) (Mem.le.refl _) ⟨fun _ h => h, fun h => h⟩ ⟨A6, c6, rfl, hc6, rfl, rfl⟩
end Go.Proofs.Ytmioocddmlfboaa
