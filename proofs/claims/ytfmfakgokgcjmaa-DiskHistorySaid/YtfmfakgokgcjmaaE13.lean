/-
  The disk: the bytes of a history; the contract of holds.
  Conditions: none.
-/
import Derived.Test.YtfmfakgokgcjmaaE11
namespace Go.Proofs.Ytfmfakgokgcjmaa
open Go Bf
attribute [local irreducible] Tr Exec Stab HasTy Go.Addr.add IntKind.wrap
/-- a sector whose halves begin with two bytes -/
def mix (a b : UInt8) : List UInt8 := (dbl a).take 64 ++ (dbl b).drop 64
theorem dbl_len (a : UInt8) : (dbl a).length = 128 := by simp [dbl]
theorem mix_len (a b : UInt8) : (mix a b).length = 128 := by simp [mix, dbl]
theorem mix_same (a : UInt8) : mix a a = dbl a := List.take_append_drop _ _
theorem mix0 (a b : UInt8) : (mix a b)[0]? = some a := rfl
theorem mix64 (a b : UInt8) : (mix a b)[64]? = some b := rfl
theorem mix1 (a b : UInt8) : (mix a b)[1]? = some 0 := rfl
theorem mix127 (a b : UInt8) : (mix a b)[127]? = some 0 := rfl
def updB (s : List UInt8) (ws : List Act3) : List UInt8 := ws.foldl (fun s a => s.set (a.at_.toNat % 4) a.byte) s
def penOf (ws : List Act3) : List (Int × List UInt8) := ws.map fun a => ((a.at_.toNat : Int) % 4, dbl a.byte)
theorem updB_len (s : List UInt8) (ws : List Act3) : (updB s ws).length = s.length := by
  induction ws generalizing s with
  | nil => rfl
  | cons a ws ih => show (updB (s.set _ _) ws).length = _; rw [ih]; simp
theorem updB_snoc (s : List UInt8) (ws : List Act3) (a : Act3) : updB s (ws ++ [a]) = (updB s ws).set (a.at_.toNat % 4) a.byte := by
  rw [updB, List.foldl_append]; rfl
theorem updB_take {s : List UInt8} {ws : List Act3} {i : Nat} {a : Act3} (h : ws[i]? = some a) : updB s (ws.take (i + 1)) = (updB s (ws.take i)).set (a.at_.toNat % 4) a.byte := by
  rw [List.take_add_one, h]
  exact updB_snoc _ _ _
theorem getD_set (s : List UInt8) (i k : Nat) (v : UInt8) (hk : k < s.length) : (s.set i v).getD k 0 = if i = k then v else s.getD k 0 := by
  by_cases e : i = k
  · subst e; simp [hk]
  · simp [List.getElem?_set_ne e, e]
theorem lastW_pen {ws : List Act3} {s : List UInt8} {k : Nat} (hk : k < s.length) : lastW (penOf ws) k (dbl (s.getD k 0)) = dbl ((updB s ws).getD k 0) := by
  induction ws generalizing s with
  | nil => rfl
  | cons a ws ih =>
    show lastW (penOf ws) k (if ((a.at_.toNat : Int) % 4) = k then dbl a.byte else dbl (s.getD k 0)) = dbl ((updB (s.set (a.at_.toNat % 4) a.byte) ws).getD k 0)
    rw [← ih (by simpa using hk), getD_set _ _ _ _ hk]
    congr 1
    by_cases e : a.at_.toNat % 4 = k
    · rw [if_pos (by omega), if_pos e]
    · rw [if_neg (by omega), if_neg e]
theorem perf_pen (ws : List Act3) (s : List UInt8) : perf (s.map dbl) (penOf ws) = (updB s ws).map dbl := by
  induction ws generalizing s with
  | nil => rfl
  | cons a ws ih =>
    show perf ((s.map dbl).set ((a.at_.toNat : Int) % 4).toNat (dbl a.byte)) (penOf ws) = (updB (s.set (a.at_.toNat % 4) a.byte) ws).map dbl
    rw [← ih, List.map_set, show ((a.at_.toNat : Int) % 4).toNat = a.at_.toNat % 4 by omega]
theorem penOf_len (ws : List Act3) : (penOf ws).length = ws.length := by simp [penOf]
theorem penOf_take (ws : List Act3) (n : Nat) : (penOf ws).take n = penOf (ws.take n) := by simp [penOf, List.map_take]
def mkD (s : List UInt8) (ws : List Act3) (room : Int) : Dsk := ⟨s.map dbl, penOf ws, room, false⟩
theorem runs_mk {s : List UInt8} {ws : List Act3} {room : Int} (hs : s.length = 4) (hw : ws.length ≤ 4096) (h0 : -1 ≤ room) (h1 : room ≤ 65536) : runs (mkD s ws room) := by
  refine ⟨⟨by simp [mkD, hs], by simp [mkD, hs], by simpa [mkD, penOf_len] using hw, fun x hx => ?_, fun w hw => ?_, h0, h1⟩, rfl⟩
  · simp only [mkD, List.mem_map] at hx
    obtain ⟨a, -, rfl⟩ := hx
    exact dbl_len a
  · simp only [mkD, penOf, List.mem_map] at hw
    obtain ⟨a, -, rfl⟩ := hw
    simp only [mkD, List.length_map, hs]
    exact ⟨by omega, by omega, dbl_len _⟩
def HoldsOk (d : Dsk) (f s : List UInt8) : Prop := ∀ k : Nat, k < 4 → ∃ b c0 c1, rdF' d k = (b, 0) ∧ b.length = 128 ∧ b[0]? = some c0 ∧ f[k]? = some c0 ∧ b[64]? = some c1 ∧ s[k]? = some c1 ∧ b[1]? = some 0 ∧ b[127]? = some 0
theorem holds_mix {d : Dsk} {f s : List UInt8} (hf : f.length = 4) (hs : s.length = 4) (h : ∀ k : Nat, k < 4 → rdF' d k = (mix (f.getD k 0) (s.getD k 0), 0)) : HoldsOk d f s := fun k hk =>
  ⟨_, f.getD k 0, s.getD k 0, h k hk, mix_len _ _, mix0 _ _, by simp [hf, hk], mix64 _ _, by simp [hs, hk], mix1 _ _, mix127 _ _⟩
theorem holds_mk {s : List UInt8} {ws : List Act3} {room : Int} (hs : s.length = 4) (hw : ws.length ≤ 4096) (h0 : -1 ≤ room) (h1 : room ≤ 65536) : HoldsOk (mkD s ws room) (updB s ws) (updB s ws) := by
  refine holds_mix (by rw [updB_len, hs]) (by rw [updB_len, hs]) (fun k hk => ?_)
  rw [rd_of (runs_mk hs hw h0 h1) (by omega) (by simp [mkD, hs]; omega), mix_same]
  have : (mkD s ws room).sec.getD (k : Int).toNat [] = dbl (s.getD k 0) := by simp [mkD, hs, hk]
  rw [this]
  show (pad (lastW (penOf ws) k (dbl (s.getD k 0))), (0 : Int)) = _
  rw [lastW_pen (by omega), pad_full (dbl_len _)]
theorem write_mk {s : List UInt8} {ws : List Act3} {room : Int} (hs : s.length = 4) (hw : ws.length < 4096) (h0 : -1 ≤ room) (h1 : room ≤ 65536) (a : Act3) : wrF (mkD s ws room) ((a.at_.toNat : Int) % 4) (dbl a.byte) = (mkD s (ws ++ [a]) room, 0) := by
  unfold wrF
  rw [if_pos ⟨runs_mk hs (by omega) h0 h1, by omega, by simp [mkD, hs]; omega⟩, if_pos (by rw [dbl_len]; omega), if_pos (by simpa [mkD, penOf_len] using hw), pad_full (dbl_len _)]
  simp [mkD, penOf]
theorem sync_mk {s : List UInt8} {ws : List Act3} {room : Int} (hs : s.length = 4) (hw : ws.length ≤ 4096) (h0 : 0 ≤ room) (h1 : room ≤ 65536) (h : (ws.length : Int) ≤ room) : syncF (mkD s ws room) = (mkD (updB s ws) [] (room - ws.length), 0) := by
  unfold syncF
  rw [if_pos (runs_mk hs hw (by omega) h1)]
  have : ¬ (0 ≤ (mkD s ws room).left ∧ (mkD s ws room).left < (mkD s ws room).pen.length) := by simp only [mkD, penOf_len]; omega
  rw [if_neg this]
  simp only [mkD, perf_pen, penOf_len, if_pos h0]
  rfl
theorem stop_mk {s : List UInt8} {ws : List Act3} {room : Int} (hs : s.length = 4) (hw : ws.length ≤ 4096) (h0 : 0 ≤ room) (h1 : room ≤ 65536) (h : room < (ws.length : Int)) : ∃ sec, syncF (mkD s ws room) = (⟨sec, [], 0, true⟩, 440) ∧
    HoldsOk ⟨sec, [], -1, false⟩ (updB s (ws.take (room.toNat + 1))) (updB s (ws.take room.toNat)) := by
  obtain ⟨n, rfl⟩ := Int.eq_ofNat_of_zero_le h0
  have hn : n < ws.length := by omega
  obtain ⟨a, ha⟩ := get_of_lt hn
  have hpa : (penOf ws)[n]? = some ((a.at_.toNat : Int) % 4, dbl a.byte) := by simp [penOf, ha]
  have hs2 : (updB s (ws.take n)).length = 4 := by rw [updB_len, hs]
  refine ⟨((updB s (ws.take n)).map dbl).set (a.at_.toNat % 4) (mix a.byte ((updB s (ws.take n)).getD (a.at_.toNat % 4) 0)), ?_, ?_⟩
  · unfold syncF
    rw [if_pos (runs_mk hs hw (by omega) h1)]
    have : 0 ≤ (mkD s ws n).left ∧ (mkD s ws n).left < (mkD s ws n).pen.length := by simp only [mkD, penOf_len]; omega
    rw [if_pos this]
    have e4 : ((a.at_.toNat : Int) % 4).toNat = a.at_.toNat % 4 := by omega
    have hlt : a.at_.toNat % 4 < (updB s (ws.take n)).length := by omega
    simp only [mkD, Int.toNat_natCast, penOf_take, perf_pen, List.getD_eq_getElem?_getD, hpa, Option.getD_some, e4]
    simp [mix, hlt]
  · simp only [Int.ofNat_eq_natCast, Int.toNat_natCast]
    rw [updB_take ha]
    generalize updB s (ws.take n) = s2 at hs2
    have hall : ∀ x ∈ (s2.map dbl).set (a.at_.toNat % 4) (mix a.byte (s2.getD (a.at_.toNat % 4) 0)), x.length = 128 := fun x hx => by
      rcases List.mem_or_eq_of_mem_set hx with h | rfl
      · simp only [List.mem_map] at h
        obtain ⟨b, -, rfl⟩ := h
        exact dbl_len b
      · exact mix_len _ _
    refine holds_mix (by simpa using hs2) hs2 (fun k hk => ?_)
    rw [rd_of ⟨⟨by simp [hs2], by simp [hs2], by simp, hall, (fun w hw => by cases hw), by simp, by simp⟩, rfl⟩ (by omega) (by simp [hs2]; omega)]
    show (pad (((s2.map dbl).set (a.at_.toNat % 4) (mix a.byte (s2.getD (a.at_.toNat % 4) 0))).getD k []), (0 : Int)) = _
    rw [getD_set _ _ _ _ (by omega)]
    by_cases e : a.at_.toNat % 4 = k
    · subst e
      rw [if_pos rfl]
      have : ((s2.map dbl).set (a.at_.toNat % 4) (mix a.byte (s2.getD (a.at_.toNat % 4) 0))).getD (a.at_.toNat % 4) [] = mix a.byte (s2.getD (a.at_.toNat % 4) 0) := by simp [hs2, hk]
      rw [this, pad_full (mix_len _ _)]
    · rw [if_neg e]
      have : ((s2.map dbl).set (a.at_.toNat % 4) (mix a.byte (s2.getD (a.at_.toNat % 4) 0))).getD k [] = dbl (s2.getD k 0) := by
        rw [List.getD_eq_getElem?_getD, List.getElem?_set_ne e]; simp [hs2, hk]
      rw [this, pad_full (dbl_len _), mix_same]

set_option maxHeartbeats 2000000 in
theorem holds_fn (M : Mem) (v : Value) (d : Dsk) (f s : List UInt8) (h : RDisk M v d) (hf : f.length = 4) (hs : s.length = 4) (hh : HoldsOk d f s) :
    Fn0 Try.prog 28 [v, .agg (byteV f).toArray, .agg (byteV s).toArray] M (fun r M' => r = .bool true) := by
  obtain ⟨A, ca, B, kb, rfl, hD⟩ := h.open_
  refine Fn.intro Try.func28 rfl rfl Try.ntmps28 rfl fun E F => ?_
  repeat (first | ((with_reducible refine Tr.step rfl ?_); (first | ((with_reducible refine Knd.assign ?_); (refine Exec.stab rfl (Stab.assign rfl) rfl ?_)) | ((with_reducible refine Knd.box ?_); (first | (refine Exec.box rfl rfl (fun b => ?_)) | (refine Exec.box1 rfl (by first | rfl | assumption) rfl (fun b => ?_)))))) | (with_reducible refine Tr.next ?_) | (with_reducible refine Tr.seq ?_) | (with_reducible refine Tr.region ?_) | (with_reducible refine Tr.nil ?_) | (with_reducible refine Tr.block ?_))
  refine Tr.loop (α := Nat × Mem) (fun x => ⟨57, [(7, .int .i64 x.1), (6, .bool false), (5, .pointer (some ⟨_, 0, none⟩)), (4, .pointer (some ⟨_, 0, none⟩)), (3, .pointer (some ⟨_, 0, none⟩))], [], x.2, _⟩) (fun x => x.1 ≤ 4 ∧ Mem.le M x.2) (fun x => 4 - x.1) (0, M) ⟨Nat.zero_le _, Mem.le.refl _⟩ (holds_sub (by repeat (first | exact SubFr.nil | refine SubFr.cons rfl ?_)) (by repeat (first | exact DropL.refl | apply DropL.skip))) (fun x hi => ?_)
  obtain ⟨i, M1⟩ := x
  obtain ⟨hi, hm1⟩ := hi
  simp only at hi hm1
  dsimp only
  by_cases hlt : i < 4
  · obtain ⟨bs, c0, c1, r1, r2, r3, r4, r5, r6, r7, r8⟩ := hh i hlt
    have hn4 : nthL (byteV f) (Int.toNat (i : Int)) = some (.int .u8 (c0.toNat : Int)) := by rw [nthL_eq]; simp [byteV, r4]
    have hn5 : nthL (byteV s) (Int.toNat (i : Int)) = some (.int .u8 (c1.toNat : Int)) := by rw [nthL_eq]; simp [byteV, r6]
    repeat (first | ((with_reducible refine Tr.step rfl ?_); (first | ((with_reducible refine Knd.move ?_); (refine Exec.stab rfl (Stab.move rfl) rfl ?_)) | ((with_reducible refine Knd.load ?_); ((refine Exec.stab rfl (Stab.loadW rfl (tysOk.get rfl) rfl (by repeat (first | exact Has.here | apply Has.there)) rfl) rfl ?_))) | ((with_reducible refine Knd.binOp ?_); ((refine Exec.stab rfl (Stab.int rfl rfl rfl) rfl ?_))))) | (with_reducible refine Tr.next ?_) | (with_reducible refine Tr.seq ?_) | (with_reducible refine Tr.region ?_) | (with_reducible refine Tr.nil ?_) | (with_reducible refine Tr.skip ?_) | (with_reducible refine Tr.block ?_) | (refine Tr.cond_t rfl (by first | (with_reducible assumption) | omega) ?_))
    ((refine Tr.step rfl ?_)); refine Exec.call0 rfl (read_o r1 (hD.mono hm1)) rfl ?_
    rintro _ M2 hm2 ⟨A2, k2, rfl, hb⟩
    obtain ⟨hA, hb0⟩ := hb.byte r3
    obtain ⟨-, hb64⟩ := hb.byte r5
    obtain ⟨-, hb1⟩ := hb.byte r7
    obtain ⟨-, hb127⟩ := hb.byte r8
    have hb1 : At M2 ((A2.getD default).add (1 * 1)) [.int .u8 0] := hb1
    have hb127 : At M2 ((A2.getD default).add (127 * 1)) [.int .u8 0] := hb127
    repeat (first | ((with_reducible refine Tr.step rfl ?_); (first | ((with_reducible refine Knd.move ?_); (refine Exec.stab rfl (Stab.move rfl) rfl ?_)) | ((with_reducible refine Knd.assign ?_); (refine Exec.stab rfl (Stab.assign rfl) rfl ?_)) | ((with_reducible refine Knd.extract ?_); (refine Exec.stab rfl (Stab.extract rfl rfl) rfl ?_)))) | (with_reducible refine Tr.next ?_) | (with_reducible refine Tr.seq ?_) | (with_reducible refine Tr.nil ?_))
    (((apply Tr.draw); (kernel_rfl)); (refine TrA.take 0 (by kernel_rfl) rfl (by kernel_rfl) (by first | exact fun _ _ _ h => h | exact fun _ _ _ h => nomatch h.1) (by first | exact fun _ h => h | (intro r h; cases h; done) | exact (Sub.mem (by repeat (first | exact Sub.refl | apply Sub.cons)))) rfl (by first | exact Stab.move rfl) rfl rfl ?_); (refine TrA.take 1 (by kernel_rfl) rfl (by kernel_rfl) (by first | exact fun _ _ _ h => h | exact fun _ _ _ h => nomatch h.1) (by first | exact fun _ h => h | (intro r h; cases h; done) | exact (Sub.mem (by repeat (first | exact Sub.refl | apply Sub.cons)))) rfl (by exact Stab.int rfl rfl rfl) rfl rfl ?_); (refine TrA.take 2 (by kernel_rfl) rfl (by kernel_rfl) (by first | exact fun _ _ _ h => h | exact fun _ _ _ h => nomatch h.1) (by first | exact fun _ h => h | (intro r h; cases h; done) | exact (Sub.mem (by repeat (first | exact Sub.refl | apply Sub.cons)))) rfl (by first | exact Stab.move rfl) rfl rfl ?_); ((refine TrA.takeg 3 (by kernel_rfl) rfl (by kernel_rfl) (by first | exact fun _ _ _ h => h | exact fun _ _ _ h => nomatch h.1) (by first | exact fun _ h => h | (intro r h; cases h; done) | exact (Sub.mem (by repeat (first | exact Sub.refl | apply Sub.cons)))) rfl rfl rfl (decide_eq_false (by first | (with_reducible assumption) | omega)) (by first | exact Stab.move rfl) rfl rfl ?_)); ((refine TrA.takeg 4 (by kernel_rfl) rfl (by kernel_rfl) (by first | exact fun _ _ _ h => h | exact fun _ _ _ h => nomatch h.1) (by first | exact fun _ h => h | (intro r h; cases h; done) | exact (Sub.mem (by repeat (first | exact Sub.refl | apply Sub.cons)))) rfl rfl rfl (decide_eq_false (by first | (with_reducible assumption) | omega)) (by first | exact Stab.len rfl (tysOk.get rfl) rfl | exact Stab.lens rfl (tysOk.get rfl) rfl) rfl rfl ?_)); ((refine TrA.takeg 5 (by kernel_rfl) rfl (by kernel_rfl) (by first | exact fun _ _ _ h => h | exact fun _ _ _ h => nomatch h.1) (by first | exact fun _ h => h | (intro r h; cases h; done) | exact (Sub.mem (by repeat (first | exact Sub.refl | apply Sub.cons)))) rfl rfl rfl (decide_eq_false (by first | (with_reducible assumption) | omega)) (by exact Stab.int rfl rfl rfl) rfl rfl ?_)); (refine TrA.take 6 (by kernel_rfl) rfl (by kernel_rfl) (by first | exact fun _ _ _ h => h | exact fun _ _ _ h => nomatch h.1) (by first | exact fun _ h => h | (intro r h; cases h; done) | exact (Sub.mem (by repeat (first | exact Sub.refl | apply Sub.cons)))) rfl (by exact Stab.pick_fd rfl (by first | (with_reducible assumption) | omega) rfl) rfl rfl ?_); (refine TrA.take 7 (by kernel_rfl) rfl (by kernel_rfl) (by first | exact fun _ _ _ h => h | exact fun _ _ _ h => nomatch h.1) (by first | exact fun _ h => h | (intro r h; cases h; done) | exact (Sub.mem (by repeat (first | exact Sub.refl | apply Sub.cons)))) rfl (by first | exact Stab.move rfl) rfl rfl ?_); ((refine TrA.takeg 8 (by kernel_rfl) rfl (by kernel_rfl) (by first | exact fun _ _ _ h => h | exact fun _ _ _ h => nomatch h.1) (by first | exact fun _ h => h | (intro r h; cases h; done) | exact (Sub.mem (by repeat (first | exact Sub.refl | apply Sub.cons)))) rfl rfl rfl (decide_eq_false (by first | (with_reducible assumption) | omega)) (by first | exact Stab.move rfl) rfl rfl ?_)); ((refine TrA.takeg 9 (by kernel_rfl) rfl (by kernel_rfl) (by first | exact fun _ _ _ h => h | exact fun _ _ _ h => nomatch h.1) (by first | exact fun _ h => h | (intro r h; cases h; done) | exact (Sub.mem (by repeat (first | exact Sub.refl | apply Sub.cons)))) rfl rfl rfl (decide_eq_false (by first | (with_reducible assumption) | omega)) (by exact Stab.indexAddr rfl rfl (tysOk.get rfl) rfl (tysOk.get rfl) rfl (by omega) (by omega) (by first | rfl | assumption)) rfl rfl ?_)); ((refine TrA.takeg 10 (by kernel_rfl) rfl (by kernel_rfl) (by first | exact fun _ _ _ h => h | exact fun _ _ _ h => nomatch h.1) (by first | exact fun _ h => h | (intro r h; cases h; done) | exact (Sub.mem (by repeat (first | exact Sub.refl | apply Sub.cons)))) rfl rfl rfl (decide_eq_false (by first | (with_reducible assumption) | omega)) (by exact Stab.loadM rfl (tysOk.get rfl) rfl (by assumption)) rfl rfl ?_)); ((refine TrA.takeg 11 (by kernel_rfl) rfl (by kernel_rfl) (by first | exact fun _ _ _ h => h | exact fun _ _ _ h => nomatch h.1) (by first | exact fun _ h => h | (intro r h; cases h; done) | exact (Sub.mem (by repeat (first | exact Sub.refl | apply Sub.cons)))) rfl rfl rfl (decide_eq_false (by first | (with_reducible assumption) | omega)) (by first | exact Stab.move rfl) rfl rfl ?_)); ((refine TrA.takeg 12 (by kernel_rfl) rfl (by kernel_rfl) (by first | exact fun _ _ _ h => h | exact fun _ _ _ h => nomatch h.1) (by first | exact fun _ h => h | (intro r h; cases h; done) | exact (Sub.mem (by repeat (first | exact Sub.refl | apply Sub.cons)))) rfl rfl rfl (decide_eq_false (by first | (with_reducible assumption) | omega)) (by exact Stab.indexArrB0 rfl rfl (tysOk.get rfl) rfl (tysOk.get rfl) rfl (by omega) (by omega)) rfl rfl ?_)); ((refine TrA.takeg 13 (by kernel_rfl) rfl (by kernel_rfl) (by first | exact fun _ _ _ h => h | exact fun _ _ _ h => nomatch h.1) (by first | exact fun _ h => h | (intro r h; cases h; done) | exact (Sub.mem (by repeat (first | exact Sub.refl | apply Sub.cons)))) rfl rfl rfl (decide_eq_false (by first | (with_reducible assumption) | omega)) (by exact Stab.load rfl (tysOk.get rfl) rfl (by repeat (first | exact Has.here | apply Has.there)) (by assumption)) rfl rfl ?_)); ((refine TrA.takeg 14 (by kernel_rfl) rfl (by kernel_rfl) (by first | exact fun _ _ _ h => h | exact fun _ _ _ h => nomatch h.1) (by first | exact fun _ h => h | (intro r h; cases h; done) | exact (Sub.mem (by repeat (first | exact Sub.refl | apply Sub.cons)))) rfl rfl rfl (decide_eq_false (by first | (with_reducible assumption) | omega)) (by exact Stab.int rfl rfl rfl) rfl rfl ?_)); (refine TrA.take 15 (by kernel_rfl) rfl (by kernel_rfl) (by first | exact fun _ _ _ h => h | exact fun _ _ _ h => nomatch h.1) (by first | exact fun _ h => h | (intro r h; cases h; done) | exact (Sub.mem (by repeat (first | exact Sub.refl | apply Sub.cons)))) rfl (by exact Stab.pick_fd rfl (by first | (with_reducible assumption) | omega) rfl) rfl rfl ?_); (refine TrA.take 16 (by kernel_rfl) rfl (by kernel_rfl) (by first | exact fun _ _ _ h => h | exact fun _ _ _ h => nomatch h.1) (by first | exact fun _ h => h | (intro r h; cases h; done) | exact (Sub.mem (by repeat (first | exact Sub.refl | apply Sub.cons)))) rfl (by first | exact Stab.move rfl) rfl rfl ?_); ((refine TrA.takeg 17 (by kernel_rfl) rfl (by kernel_rfl) (by first | exact fun _ _ _ h => h | exact fun _ _ _ h => nomatch h.1) (by first | exact fun _ h => h | (intro r h; cases h; done) | exact (Sub.mem (by repeat (first | exact Sub.refl | apply Sub.cons)))) rfl rfl rfl (decide_eq_false (by first | (with_reducible assumption) | omega)) (by first | exact Stab.move rfl) rfl rfl ?_)); ((refine TrA.takeg 18 (by kernel_rfl) rfl (by kernel_rfl) (by first | exact fun _ _ _ h => h | exact fun _ _ _ h => nomatch h.1) (by first | exact fun _ h => h | (intro r h; cases h; done) | exact (Sub.mem (by repeat (first | exact Sub.refl | apply Sub.cons)))) rfl rfl rfl (decide_eq_false (by first | (with_reducible assumption) | omega)) (by exact Stab.indexAddr rfl rfl (tysOk.get rfl) rfl (tysOk.get rfl) rfl (by omega) (by omega) (by first | rfl | assumption)) rfl rfl ?_)); ((refine TrA.takeg 19 (by kernel_rfl) rfl (by kernel_rfl) (by first | exact fun _ _ _ h => h | exact fun _ _ _ h => nomatch h.1) (by first | exact fun _ h => h | (intro r h; cases h; done) | exact (Sub.mem (by repeat (first | exact Sub.refl | apply Sub.cons)))) rfl rfl rfl (decide_eq_false (by first | (with_reducible assumption) | omega)) (by exact Stab.loadM rfl (tysOk.get rfl) rfl (by assumption)) rfl rfl ?_)); ((refine TrA.takeg 20 (by kernel_rfl) rfl (by kernel_rfl) (by first | exact fun _ _ _ h => h | exact fun _ _ _ h => nomatch h.1) (by first | exact fun _ h => h | (intro r h; cases h; done) | exact (Sub.mem (by repeat (first | exact Sub.refl | apply Sub.cons)))) rfl rfl rfl (decide_eq_false (by first | (with_reducible assumption) | omega)) (by first | exact Stab.move rfl) rfl rfl ?_)); ((refine TrA.takeg 21 (by kernel_rfl) rfl (by kernel_rfl) (by first | exact fun _ _ _ h => h | exact fun _ _ _ h => nomatch h.1) (by first | exact fun _ h => h | (intro r h; cases h; done) | exact (Sub.mem (by repeat (first | exact Sub.refl | apply Sub.cons)))) rfl rfl rfl (decide_eq_false (by first | (with_reducible assumption) | omega)) (by exact Stab.indexArrB0 rfl rfl (tysOk.get rfl) rfl (tysOk.get rfl) rfl (by omega) (by omega)) rfl rfl ?_)); ((refine TrA.takeg 22 (by kernel_rfl) rfl (by kernel_rfl) (by first | exact fun _ _ _ h => h | exact fun _ _ _ h => nomatch h.1) (by first | exact fun _ h => h | (intro r h; cases h; done) | exact (Sub.mem (by repeat (first | exact Sub.refl | apply Sub.cons)))) rfl rfl rfl (decide_eq_false (by first | (with_reducible assumption) | omega)) (by exact Stab.load rfl (tysOk.get rfl) rfl (by repeat (first | exact Has.here | apply Has.there)) (by assumption)) rfl rfl ?_)); ((refine TrA.takeg 23 (by kernel_rfl) rfl (by kernel_rfl) (by first | exact fun _ _ _ h => h | exact fun _ _ _ h => nomatch h.1) (by first | exact fun _ h => h | (intro r h; cases h; done) | exact (Sub.mem (by repeat (first | exact Sub.refl | apply Sub.cons)))) rfl rfl rfl (decide_eq_false (by first | (with_reducible assumption) | omega)) (by exact Stab.int rfl rfl rfl) rfl rfl ?_)); (refine TrA.take 24 (by kernel_rfl) rfl (by kernel_rfl) (by first | exact fun _ _ _ h => h | exact fun _ _ _ h => nomatch h.1) (by first | exact fun _ h => h | (intro r h; cases h; done) | exact (Sub.mem (by repeat (first | exact Sub.refl | apply Sub.cons)))) rfl (by exact Stab.pick_fd rfl (by first | (with_reducible assumption) | omega) rfl) rfl rfl ?_); (refine TrA.take 25 (by kernel_rfl) rfl (by kernel_rfl) (by first | exact fun _ _ _ h => h | exact fun _ _ _ h => nomatch h.1) (by first | exact fun _ h => h | (intro r h; cases h; done) | exact (Sub.mem (by repeat (first | exact Sub.refl | apply Sub.cons)))) rfl (by first | exact Stab.move rfl) rfl rfl ?_); ((refine TrA.takeg 26 (by kernel_rfl) rfl (by kernel_rfl) (by first | exact fun _ _ _ h => h | exact fun _ _ _ h => nomatch h.1) (by first | exact fun _ h => h | (intro r h; cases h; done) | exact (Sub.mem (by repeat (first | exact Sub.refl | apply Sub.cons)))) rfl rfl rfl (decide_eq_false (by first | (with_reducible assumption) | omega)) (by first | exact Stab.move rfl) rfl rfl ?_)); ((refine TrA.takeg 27 (by kernel_rfl) rfl (by kernel_rfl) (by first | exact fun _ _ _ h => h | exact fun _ _ _ h => nomatch h.1) (by first | exact fun _ h => h | (intro r h; cases h; done) | exact (Sub.mem (by repeat (first | exact Sub.refl | apply Sub.cons)))) rfl rfl rfl (decide_eq_false (by first | (with_reducible assumption) | omega)) (by exact Stab.indexAddr rfl rfl (tysOk.get rfl) rfl (tysOk.get rfl) rfl (by omega) (by omega) (by first | rfl | assumption)) rfl rfl ?_)); ((refine TrA.takeg 28 (by kernel_rfl) rfl (by kernel_rfl) (by first | exact fun _ _ _ h => h | exact fun _ _ _ h => nomatch h.1) (by first | exact fun _ h => h | (intro r h; cases h; done) | exact (Sub.mem (by repeat (first | exact Sub.refl | apply Sub.cons)))) rfl rfl rfl (decide_eq_false (by first | (with_reducible assumption) | omega)) (by exact Stab.loadM rfl (tysOk.get rfl) rfl (by assumption)) rfl rfl ?_)); ((refine TrA.takeg 29 (by kernel_rfl) rfl (by kernel_rfl) (by first | exact fun _ _ _ h => h | exact fun _ _ _ h => nomatch h.1) (by first | exact fun _ h => h | (intro r h; cases h; done) | exact (Sub.mem (by repeat (first | exact Sub.refl | apply Sub.cons)))) rfl rfl rfl (decide_eq_false (by first | (with_reducible assumption) | omega)) (by exact Stab.int rfl rfl rfl) rfl rfl ?_)); (refine TrA.take 30 (by kernel_rfl) rfl (by kernel_rfl) (by first | exact fun _ _ _ h => h | exact fun _ _ _ h => nomatch h.1) (by first | exact fun _ h => h | (intro r h; cases h; done) | exact (Sub.mem (by repeat (first | exact Sub.refl | apply Sub.cons)))) rfl (by exact Stab.pick_fd rfl (by first | (with_reducible assumption) | omega) rfl) rfl rfl ?_); (refine TrA.take 31 (by kernel_rfl) rfl (by kernel_rfl) (by first | exact fun _ _ _ h => h | exact fun _ _ _ h => nomatch h.1) (by first | exact fun _ h => h | (intro r h; cases h; done) | exact (Sub.mem (by repeat (first | exact Sub.refl | apply Sub.cons)))) rfl (by first | exact Stab.move rfl) rfl rfl ?_); ((refine TrA.takeg 32 (by kernel_rfl) rfl (by kernel_rfl) (by first | exact fun _ _ _ h => h | exact fun _ _ _ h => nomatch h.1) (by first | exact fun _ h => h | (intro r h; cases h; done) | exact (Sub.mem (by repeat (first | exact Sub.refl | apply Sub.cons)))) rfl rfl rfl (decide_eq_false (by first | (with_reducible assumption) | omega)) (by first | exact Stab.move rfl) rfl rfl ?_)); ((refine TrA.takeg 33 (by kernel_rfl) rfl (by kernel_rfl) (by first | exact fun _ _ _ h => h | exact fun _ _ _ h => nomatch h.1) (by first | exact fun _ h => h | (intro r h; cases h; done) | exact (Sub.mem (by repeat (first | exact Sub.refl | apply Sub.cons)))) rfl rfl rfl (decide_eq_false (by first | (with_reducible assumption) | omega)) (by exact Stab.indexAddr rfl rfl (tysOk.get rfl) rfl (tysOk.get rfl) rfl (by omega) (by omega) (by first | rfl | assumption)) rfl rfl ?_)); ((refine TrA.takeg 34 (by kernel_rfl) rfl (by kernel_rfl) (by first | exact fun _ _ _ h => h | exact fun _ _ _ h => nomatch h.1) (by first | exact fun _ h => h | (intro r h; cases h; done) | exact (Sub.mem (by repeat (first | exact Sub.refl | apply Sub.cons)))) rfl rfl rfl (decide_eq_false (by first | (with_reducible assumption) | omega)) (by exact Stab.loadM rfl (tysOk.get rfl) rfl (by assumption)) rfl rfl ?_)); ((refine TrA.takeg 35 (by kernel_rfl) rfl (by kernel_rfl) (by first | exact fun _ _ _ h => h | exact fun _ _ _ h => nomatch h.1) (by first | exact fun _ h => h | (intro r h; cases h; done) | exact (Sub.mem (by repeat (first | exact Sub.refl | apply Sub.cons)))) rfl rfl rfl (decide_eq_false (by first | (with_reducible assumption) | omega)) (by exact Stab.int rfl rfl rfl) rfl rfl ?_)); (refine TrA.take 36 (by kernel_rfl) rfl (by kernel_rfl) (by first | exact fun _ _ _ h => h | exact fun _ _ _ h => nomatch h.1) (by first | exact fun _ h => h | (intro r h; cases h; done) | exact (Sub.mem (by repeat (first | exact Sub.refl | apply Sub.cons)))) rfl (by exact Stab.pick_fd rfl (by first | (with_reducible assumption) | omega) rfl) rfl rfl ?_); (refine TrA.done (by kernel_rfl) ?_))
    repeat (first | ((with_reducible refine Tr.step rfl ?_); (first | ((with_reducible refine Knd.move ?_); (refine Exec.stab rfl (Stab.move rfl) rfl ?_)) | ((with_reducible refine Knd.assign ?_); (refine Exec.stab rfl (Stab.assign rfl) rfl ?_)) | ((with_reducible refine Knd.binOp ?_); ((refine Exec.stab rfl (Stab.addi rfl rfl (by omega)) rfl ?_))))) | (with_reducible refine Tr.next ?_) | (with_reducible refine Tr.region ?_) | (with_reducible refine Tr.nil ?_) | (with_reducible refine Tr.skip ?_) | (with_reducible refine Tr.in_normal ?_) | (refine Tr.cond_f rfl (by first | (with_reducible assumption) | omega) ?_))
    refine Tr.again (i + 1, M2) ⟨by simp only; omega, hm1.trans hm2⟩ (by simp only; omega) (holds_sub (by repeat (first | exact SubFr.nil | refine SubFr.cons rfl ?_)) (by repeat (first | exact DropL.refl | apply DropL.skip)))
  · repeat (first | ((with_reducible refine Tr.step rfl ?_); (first | ((with_reducible refine Knd.move ?_); (refine Exec.stab rfl (Stab.move rfl) rfl ?_)) | ((with_reducible refine Knd.assign ?_); (refine Exec.stab rfl (Stab.assign rfl) rfl ?_)) | ((with_reducible refine Knd.binOp ?_); ((refine Exec.stab rfl (Stab.int rfl rfl rfl) rfl ?_))))) | (with_reducible refine Tr.next ?_) | (with_reducible refine Tr.seq ?_) | (with_reducible refine Tr.region ?_) | (with_reducible refine Tr.nil ?_) | (with_reducible refine Tr.exit ?_) | (with_reducible refine Tr.ret ?_) | (with_reducible refine Tr.then_exit ?_) | ((with_reducible refine Tr.in_exit ?_ ?_); (exact rfl)) | (refine Tr.cond_f rfl (by first | (with_reducible assumption) | omega) ?_))
    (refine Tr.done (by first | exact .inl rfl | exact .inr rfl) rfl (by repeat (first | exact RVs.nil | (apply RVs.cons; (exact RV.tmp rfl)))) (by first | exact Mem.le.refl _ | assumption) (by exact ⟨[_, _, _], rfl⟩) ⟨rfl, ?_⟩)
    rfl
end Go.Proofs.Ytfmfakgokgcjmaa
