/-
  The disk: the contract of Sync.
  Conditions: none.
-/
import Derived.Test.YtfmfakgokgcjmaaD2
import Derived.Test.YtfmfakgokgcjmaaBfRepB
import Derived.Test.YtfmfakgokgcjmaaBfFn
namespace Go.Proofs.Ytfmfakgokgcjmaa
open Go Bf
attribute [local irreducible] Tr Exec Stab HasTy Go.Addr.add IntKind.wrap
/-- the first writes, performed -/
def perf (s : List (List UInt8)) (p : List (Int × List UInt8)) : List (List UInt8) := p.foldl (fun s w => s.set w.1.toNat w.2) s
def syncF (d : Dsk) : Dsk × Int :=
  if runs d then
    (if 0 ≤ d.left ∧ d.left < d.pen.length then
      (let s := perf d.sec (d.pen.take d.left.toNat)
       let w := d.pen.getD d.left.toNat (0, [])
       (⟨s.set w.1.toNat (w.2.take 64 ++ (s.getD w.1.toNat []).drop 64), [], 0, true⟩, 440))
     else (⟨perf d.sec d.pen, [], if 0 ≤ d.left then d.left - d.pen.length else -1, false⟩, 0))
  else (zD, 440)
theorem perf_take {s : List (List UInt8)} {p : List (Int × List UInt8)} {i : Nat} {x : Int × List UInt8} (h : p[i]? = some x) : perf s (p.take (i + 1)) = (perf s (p.take i)).set x.1.toNat x.2 := by
  have e : p.take (i + 1) = p.take i ++ [x] := by
    rw [List.take_add_one, h]; rfl
  rw [e, perf, List.foldl_append]; rfl
theorem perf_length (s : List (List UInt8)) (p : List (Int × List UInt8)) : (perf s p).length = s.length := by
  induction p generalizing s with
  | nil => rfl
  | cons w p ih => show (perf (s.set w.1.toNat w.2) p).length = _; rw [ih]; simp
theorem perf_all {s : List (List UInt8)} {p : List (Int × List UInt8)} (h1 : ∀ x ∈ s, x.length = 128) (h2 : ∀ w ∈ p, w.2.length = 128) : ∀ x ∈ perf s p, x.length = 128 := by
  induction p generalizing s with
  | nil => exact h1
  | cons w p ih =>
    refine ih (s := s.set w.1.toNat w.2) (fun x hx => ?_) (fun w hw => h2 w (List.mem_cons_of_mem _ hw))
    rcases List.mem_or_eq_of_mem_set hx with h | rfl
    · exact h1 x h
    · exact h2 w (List.mem_cons_self ..)

set_option maxHeartbeats 1000000 in
theorem sector_own (M : Mem) (A : Option Addr) (c : Nat) (bs : List UInt8) (h : BSl M (.slice A bs.length c) bs) (hl : bs.length ≤ 128) :
    Bf.Fn Try.prog 32 [.slice A bs.length c] M [] (fun r M' A' => M = M' ∧ ∃ b, r = .slice (some ⟨b, 0, none⟩) 128 128 ∧ A' = [box b 5 (byteV (pad bs))]) := by
  obtain ⟨A', c', e, h2, h3, h4, h5⟩ := h
  cases e
  refine Fn.intro Try.func32 rfl rfl Try.ntmps32 rfl fun E F => ?_
  repeat (first | ((with_reducible refine Tr.step rfl ?_); (first | ((with_reducible refine Knd.move ?_); (refine Exec.stab rfl (Stab.move rfl) rfl ?_)) | ((with_reducible refine Knd.assign ?_); (refine Exec.stab rfl (Stab.assign rfl) rfl ?_)) | ((with_reducible refine Knd.makeSlice ?_); (refine Exec.make rfl rfl (tysOk.get rfl) rfl (tysOk.get rfl) rfl rfl rfl (by omega) (by omega) (by first | omega | (simp; done) | (simp; omega)) (by omega) rfl (fun b => ?_))))) | (with_reducible refine Tr.next ?_) | (with_reducible refine Tr.seq ?_) | (with_reducible refine Tr.region ?_) | (with_reducible refine Tr.nil ?_))
  ((refine Tr.step rfl ?_))
  refine Exec.copy (news := byteV bs) rfl rfl (tysOk.get rfl) rfl (tysOk.get rfl) rfl (Src.row_min h5) (by simp; omega) (byteV_one bs) (by simp; omega) Upd.here rfl ?_
  repeat (first | ((with_reducible refine Tr.step rfl ?_); (first | ((with_reducible refine Knd.move ?_); (refine Exec.stab rfl (Stab.move rfl) rfl ?_)) | ((with_reducible refine Knd.assign ?_); (refine Exec.stab rfl (Stab.assign rfl) rfl ?_)))) | (with_reducible refine Tr.next ?_) | (with_reducible refine Tr.seq ?_) | (with_reducible refine Tr.region ?_) | (with_reducible refine Tr.nil ?_) | (with_reducible refine Tr.ret ?_))
  have e : List.take 0 (List.replicate (Int.toNat 128) (Value.int .u8 0)) ++ byteV bs ++ List.drop (0 + (byteV bs).length) (List.replicate (Int.toNat 128) (Value.int .u8 0)) = byteV (pad bs) := by
    rw [pad, byteV_append, ← byteV_replicate, List.drop_replicate]; simp only [List.take_zero, List.nil_append, byteV_length, Nat.zero_add]; rfl
  rw [e]
  refine Tr.doneA (A' := [box _ 5 (byteV (pad bs))]) (by first | exact .inl rfl | exact .inr rfl) rfl (by repeat (first | exact RVs.nil | (apply RVs.cons; (exact RV.tmp rfl)))) (Mem.le.refl _) ⟨fun _ h => h, fun h => h⟩ ⟨rfl, _, rfl, rfl⟩
theorem BSl.cap {M : Mem} {A : Option Addr} {n c : Nat} {bs : List UInt8} (h : BSl M (.slice A n c) bs) : bs.length ≤ c ∧ Row M A bs.length 1 (byteV bs) := by
  obtain ⟨_, _, e, h1, h2, h3, h4⟩ := h
  cases e
  exact ⟨h1, h4⟩
theorem sector_full (M : Mem) (A : Option Addr) (c : Nat) (bs : List UInt8) (h : BSl M (.slice A bs.length c) bs) (hl : bs.length = 128) :
    Fn0 Try.prog 32 [.slice A bs.length c] M (fun r M' => ∃ A' k', r = .slice A' bs.length k' ∧ BSl M' (.slice A' bs.length k') bs) := by
  have := sector_fn M A c bs h (by omega)
  rwa [pad_full hl] at this
theorem sec_cell {M : Mem} {cs : List Value} {n j : Nat} {s : List (List UInt8)} {z : List UInt8} (hE : Elems 1 RSec M (cs.take n) s) (hz : s[j]? = some z) : ∃ A k, cs[j]? = some (.slice A z.length k) ∧ BSl M (.slice A z.length k) z := by
  obtain ⟨A, k, h1, h2⟩ := hE.2 j z hz
  refine ⟨A, k, ?_, h2⟩
  rw [Nat.mul_one, List.take_one, List.head?_drop] at h1
  have h3 : (cs.take n)[j]? = some (.slice A z.length k) := by
    cases h : (cs.take n)[j]? with
    | none => rw [h] at h1; cases h1
    | some u => rw [h] at h1; simp at h1; rw [h1]
  rw [List.getElem?_take] at h3
  split at h3
  · exact h3
  · cases h3

set_option maxHeartbeats 1000000 in
theorem clone_own (M : Mem) (A : Option Addr) (c n : Nat) (cells : List Value) (h5 : Row M A n 1 cells) (h2 : n ≤ c) (h3 : c ≤ 9223372036854775807) (h4 : A = none → n = 0) (hn : 1 ≤ n) (hl : n ≤ 4096) :
    Bf.Fn Try.prog 34 [.slice A n c] M [] (fun r M' A' => M = M' ∧ ∃ A2 c', r = .slice A2 n c' ∧ c' ≤ 9223372036854775807 ∧ A' = [ownS 35 1 A2 n c' cells]) := by
  refine Fn.intro Try.func34 rfl rfl Try.ntmps34 rfl fun E F => ?_
  have hA : A ≠ none := fun h => by have := h4 h; omega
  repeat (first | ((with_reducible refine Tr.step rfl ?_); (first | ((with_reducible refine Knd.move ?_); (refine Exec.stab rfl (Stab.move rfl) rfl ?_)) | ((with_reducible refine Knd.assign ?_); (refine Exec.stab rfl (Stab.assign rfl) rfl ?_)) | ((with_reducible refine Knd.binOp ?_); ((refine Exec.stab rfl (Stab.slnil rfl (tysOk.get rfl) rfl) rfl ?_))) | ((with_reducible refine Knd.buildSlice ?_); (refine Exec.buildSlice (tysOk.get rfl) rfl (tysOk.get rfl) rfl rfl rfl rfl rfl (by repeat (exact BuildP.nil)) rfl (fun b => ?_))))) | (with_reducible refine Tr.next ?_) | (with_reducible refine Tr.seq ?_) | (with_reducible refine Tr.region ?_) | (with_reducible refine Tr.nil ?_) | (with_reducible refine Tr.skip ?_) | (refine Tr.cond_f rfl (by first | assumption | omega) ?_))
  refine Tr.box_own 1 0 (by repeat (first | exact Upd.here | apply Upd.there)) rfl (by intro u hu; cases hu) (by simp [maxLen]) ?_
  ((refine Tr.step rfl ?_))
  refine Exec.append (news := cells) rfl rfl (tysOk.get rfl) rfl (tysOk.get rfl) rfl rfl rfl rfl (by repeat (first | exact Del.here | apply Del.there)) (Src.row h5) h5.len h5.one (by omega) (by omega) rfl (fun A' c' hc' => ?_)
  simp only [Nat.zero_add, List.nil_append]
  repeat (first | ((with_reducible refine Tr.step rfl ?_); (((with_reducible refine Knd.assign ?_); (refine Exec.stab rfl (Stab.assign rfl) rfl ?_)))) | (with_reducible refine Tr.next ?_) | (with_reducible refine Tr.nil ?_) | (with_reducible refine Tr.ret ?_))
  refine Tr.doneA (A' := [ownS 35 1 A' n c' cells]) (by first | exact .inl rfl | exact .inr rfl) rfl (by repeat (first | exact RVs.nil | (apply RVs.cons; (exact RV.tmp rfl)))) (Mem.le.refl _) ⟨fun _ h => h, fun h => h⟩ ⟨rfl, A', c', rfl, hc', rfl⟩

theorem perf_step {M M' : Mem} {n c i : Nat} {cur : List Value} {s : List (List UInt8)} {A : Option Addr} {k : Nat} {x : List UInt8} (hn : n = s.length) (hl : cur.length = c) (h1 : ∀ u ∈ cur.take n, u.oneCell' = true) (hE : Elems 1 RSec M (cur.take n) s) (hm : Mem.le M M')
    (hb : BSl M' (.slice A x.length k) x) : (cur.set i (.slice A x.length k)).length = c ∧ (∀ u ∈ (cur.set i (.slice A x.length k)).take n, u.oneCell' = true) ∧ Elems 1 RSec M' ((cur.set i (.slice A x.length k)).take n) (s.set i x) := by
  have e : (cur.set i (.slice A x.length k)).take n = (cur.take n).set i (.slice A x.length k) := List.take_set ..
  rw [e]
  refine ⟨by simpa using hl, fun u hu => ?_, (hE.mono RSec.mono hm).set ⟨A, k, rfl, hb⟩⟩
  rcases List.mem_or_eq_of_mem_set hu with h | rfl
  · exact h1 u h
  · rfl

set_option maxHeartbeats 2000000 in
theorem sync_fn (M : Mem) (v : Value) (d : Dsk) (h : RDisk M v d) :
    Fn0 Try.prog 23 [v] M (fun r M' => RPair M' r (syncF d)) := by
  have hD := h
  obtain ⟨sec, pen, left, stop⟩ := d
  obtain ⟨A, c, B, k, rfl, h1, h2⟩ := h
  dsimp only at hD h1 h2 ⊢
  have l1 := h1.len_le
  have l2 := h2.len_le
  refine Fn.intro Try.func23 rfl rfl Try.ntmps23 rfl fun E F => ?_
  repeat (first | ((with_reducible refine Tr.step rfl ?_); (first | ((with_reducible refine Knd.assign ?_); (refine Exec.stab rfl (Stab.assign rfl) rfl ?_)) | ((with_reducible refine Knd.load ?_); ((refine Exec.stab rfl (Stab.loadW rfl (tysOk.get rfl) rfl (by repeat (first | exact Has.here | apply Has.there)) rfl) rfl ?_))) | ((with_reducible refine Knd.box ?_); (first | (refine Exec.box rfl rfl (fun b => ?_)) | (refine Exec.box1 rfl (by first | rfl | assumption) rfl (fun b => ?_)))) | ((with_reducible refine Knd.alloc ?_); (first | (refine Exec.alloc (tysOk.get rfl) rfl rfl (fun b => ?_)) | (refine Exec.alloc1 (tysOk.get rfl) rfl rfl rfl (fun b => ?_)))))) | (with_reducible refine Tr.next ?_) | (with_reducible refine Tr.seq ?_) | (with_reducible refine Tr.region ?_) | (with_reducible refine Tr.nil ?_))
  by_cases hk : runs ⟨sec, pen, left, stop⟩
  · ((refine Tr.step rfl ?_)); refine Exec.call0 rfl (running_y M _ _ hD hk) rfl ?_
    rintro _ _ _ ⟨rfl, rfl⟩
    obtain ⟨⟨q1, q2, q3, q0, q4, q5, q6⟩, q7⟩ := id hk
    dsimp only at q1 q2 q3 q0 q4 q5 q6 q7
    obtain ⟨cells, -, g1, g2, g3, g5, g6⟩ := h1.cells
    obtain ⟨_, -, gk, gk2, -⟩ := h2.cells
    by_cases hl : 0 ≤ left ∧ left < pen.length
    · obtain ⟨m, rfl⟩ : ∃ m : Nat, left = (m : Int) := ⟨left.toNat, by omega⟩
      obtain ⟨hl1, hl2⟩ := hl
      repeat (first | ((with_reducible refine Tr.step rfl ?_); (first | ((with_reducible refine Knd.move ?_); (refine Exec.stab rfl (Stab.move rfl) rfl ?_)) | ((with_reducible refine Knd.assign ?_); (refine Exec.stab rfl (Stab.assign rfl) rfl ?_)) | ((with_reducible refine Knd.load ?_); (first | (refine Exec.stab rfl (Stab.load rfl (tysOk.get rfl) rfl (by repeat (first | exact Has.here | apply Has.there)) rfl) rfl ?_) | (refine Exec.stab rfl (Stab.loadW rfl (tysOk.get rfl) rfl (by repeat (first | exact Has.here | apply Has.there)) rfl) rfl ?_))) | ((with_reducible refine Knd.fieldAddr ?_); ((refine Exec.stab rfl (Stab.fieldZ rfl (tysOk.get rfl) rfl rfl (tysOk.get rfl) rfl) rfl ?_))) | ((with_reducible refine Knd.len ?_); (first | (refine Exec.stab rfl (Stab.len rfl (tysOk.get rfl) rfl) rfl ?_) | (refine Exec.stab rfl (Stab.lens rfl (tysOk.get rfl) rfl) rfl ?_))) | ((with_reducible refine Knd.binOp ?_); ((refine Exec.stab rfl (Stab.int rfl rfl rfl) rfl ?_))) | ((with_reducible refine Knd.pick ?_); ((refine Exec.stab rfl (Stab.pick_td rfl (by first | assumption | omega) rfl) rfl ?_))) | ((with_reducible refine Knd.store ?_); (first | (refine Exec.store rfl rfl (tysOk.get rfl) rfl (by first | rfl | assumption) (by repeat (first | exact Upd.here | apply Upd.there)) (by repeat (first | exact SetL.z | apply SetL.s)) ?_) | (refine Exec.storeW rfl rfl (tysOk.get rfl) (by repeat (first | exact Upd.here | apply Upd.there)) rfl rfl (by repeat (first | exact AllOne.nil | refine AllOne.cons (by first | rfl | assumption) ?_)) ?_))))) | (with_reducible refine Tr.next ?_) | (with_reducible refine Tr.seq ?_) | (with_reducible refine Tr.region ?_) | (with_reducible refine Tr.nil ?_) | ((refine Tr.guard_y rfl rfl rfl (by first | assumption | omega) ?_); (first | ((with_reducible refine Knd.move ?_); (refine Exec.stab rfl (Stab.move rfl) rfl ?_)) | ((with_reducible refine Knd.load ?_); ((refine Exec.stab rfl (Stab.load rfl (tysOk.get rfl) rfl (by repeat (first | exact Has.here | apply Has.there)) rfl) rfl ?_))) | ((with_reducible refine Knd.fieldAddr ?_); ((refine Exec.stab rfl (Stab.fieldZ rfl (tysOk.get rfl) rfl rfl (tysOk.get rfl) rfl) rfl ?_))) | ((with_reducible refine Knd.binOp ?_); ((refine Exec.stab rfl (Stab.int rfl rfl rfl) rfl ?_))))) | (with_reducible refine Tr.skip ?_) | (refine Tr.cond_t rfl (by first | assumption | omega) ?_) | (refine Tr.cond_f rfl (by first | assumption | omega) ?_))
      ((refine Tr.step rfl ?_))
      refine Exec.call (A := []) rfl (clone_own M A c sec.length cells g5 g1 g2 g3 q1 q2) (List.Perm.refl _) rfl ?_
      rintro _ _ _ - ⟨rfl, A2, c', rfl, hc', rfl⟩
      refine Tr.own_open Del.here (by omega) (fun g cur hA2 hnc hcl hct => ?_)
      subst hA2
      rw [Nat.mul_one] at hcl hct
      repeat (first | ((with_reducible refine Tr.step rfl ?_); (first | ((with_reducible refine Knd.move ?_); (refine Exec.stab rfl (Stab.move rfl) rfl ?_)) | ((with_reducible refine Knd.load ?_); ((refine Exec.stab rfl (Stab.load rfl (tysOk.get rfl) rfl (by repeat (first | exact Has.here | apply Has.there)) rfl) rfl ?_))) | ((with_reducible refine Knd.fieldAddr ?_); ((refine Exec.stab rfl (Stab.fieldZ rfl (tysOk.get rfl) rfl rfl (tysOk.get rfl) rfl) rfl ?_))) | ((with_reducible refine Knd.len ?_); (first | (refine Exec.stab rfl (Stab.len rfl (tysOk.get rfl) rfl) rfl ?_) | (refine Exec.stab rfl (Stab.lens rfl (tysOk.get rfl) rfl) rfl ?_))) | ((with_reducible refine Knd.store ?_); ((refine Exec.store rfl rfl (tysOk.get rfl) rfl (by first | rfl | assumption) (by repeat (first | exact Upd.here | apply Upd.there)) (by repeat (first | exact SetL.z | apply SetL.s)) ?_))) | ((with_reducible refine Knd.slice ?_); ((refine Exec.stab rfl (Stab.slice_hm rfl rfl rfl (tysOk.get rfl) rfl (tysOk.get rfl) (by omega) (by omega) (by omega)) rfl ?_))))) | (with_reducible refine Tr.next ?_) | (with_reducible refine Tr.seq ?_) | (with_reducible refine Tr.region ?_) | (with_reducible refine Tr.nil ?_) | (with_reducible refine Tr.block ?_))
      refine Tr.loop (α := Nat × Mem × List Value) (fun x => ⟨94, [(44, .int .i64 x.1), (43, .int .i64 m), (42, .slice B m m), (6, .int .i64 m), (5, .int .i64 pen.length), (3, .int .i64 0), (2, .pointer (some ⟨_, 0, none⟩)), (1, .pointer (some ⟨_, 0, none⟩))], [], x.2.1, box g 35 x.2.2 :: _⟩)
        (fun x => x.1 ≤ m ∧ Mem.le M x.2.1 ∧ x.2.2.length = c' ∧ (∀ u ∈ x.2.2.take sec.length, u.oneCell' = true) ∧ Elems 1 RSec x.2.1 (x.2.2.take sec.length) (perf sec (pen.take x.1)))
        (fun x => m - x.1) (0, M, cur) ⟨Nat.zero_le _, Mem.le.refl _, hcl, by rw [hct]; exact g5.one, by rw [hct]; exact g6⟩ (holds_sub (by repeat (first | exact SubFr.nil | refine SubFr.cons rfl ?_)) (by repeat (first | exact DropL.refl | apply DropL.skip))) (fun x hi => ?_)
      obtain ⟨i, M1, cs⟩ := x
      obtain ⟨hi, hm1, hcs, hone, hel⟩ := hi
      simp only at hi hm1 hcs hone hel
      dsimp only
      by_cases hlt : i < m
      · obtain ⟨y, hy⟩ := get_of_lt (show i < pen.length by omega)
        obtain ⟨hA3, ch3, hat3, A3, k3, rfl, hb3⟩ := (h2.mono RWr.mono hm1).elem hy
        have hyl := q4 y (getElem_mem' hy)
        obtain ⟨y1, y2, y3⟩ := hyl
        repeat (first | ((with_reducible refine Tr.step rfl ?_); (first | ((with_reducible refine Knd.load ?_); ((refine Exec.stab rfl (Stab.loadMA rfl (tysOk.get rfl) rfl (by assumption) rfl) rfl ?_))) | ((with_reducible refine Knd.binOp ?_); ((refine Exec.stab rfl (Stab.int rfl rfl rfl) rfl ?_))) | ((with_reducible refine Knd.store ?_); ((refine Exec.storeW rfl rfl (tysOk.get rfl) (by repeat (first | exact Upd.here | apply Upd.there)) rfl rfl (by repeat (first | exact AllOne.nil | refine AllOne.cons (by first | rfl | assumption) ?_)) ?_))) | ((with_reducible refine Knd.alloc ?_); (first | (refine Exec.alloc (tysOk.get rfl) rfl rfl (fun b => ?_)) | (refine Exec.alloc1 (tysOk.get rfl) rfl rfl rfl (fun b => ?_)))) | ((with_reducible refine Knd.indexAddr ?_); ((refine Exec.stab rfl (Stab.indexAddr rfl rfl (tysOk.get rfl) rfl (tysOk.get rfl) rfl (by omega) (by omega) (by first | rfl | assumption)) rfl ?_))))) | (with_reducible refine Tr.next ?_) | (with_reducible refine Tr.seq ?_) | (with_reducible refine Tr.region ?_) | (with_reducible refine Tr.nil ?_) | (with_reducible refine Tr.skip ?_) | (with_reducible refine Tr.block ?_) | (refine Tr.cond_t rfl (by first | assumption | omega) ?_))
        (((apply Tr.draw); (kernel_rfl)); (refine TrA.take 0 (by kernel_rfl) rfl (by kernel_rfl) (by first | exact fun _ _ _ h => h | exact fun _ _ _ h => nomatch h.1) (by first | exact fun _ h => h | (intro r h; cases h; done) | exact (Sub.mem (by repeat (first | exact Sub.refl | apply Sub.cons)))) rfl (by exact Stab.fieldZ rfl (tysOk.get rfl) rfl rfl (tysOk.get rfl) rfl) rfl rfl ?_); (refine TrA.take 1 (by kernel_rfl) rfl (by kernel_rfl) (by first | exact fun _ _ _ h => h | exact fun _ _ _ h => nomatch h.1) (by first | exact fun _ h => h | (intro r h; cases h; done) | exact (Sub.mem (by repeat (first | exact Sub.refl | apply Sub.cons)))) rfl (by exact Stab.load rfl (tysOk.get rfl) rfl (by repeat (first | exact Has.here | apply Has.there)) rfl) rfl rfl ?_); (refine TrA.take 2 (by kernel_rfl) rfl (by kernel_rfl) (by first | exact fun _ _ _ h => h | exact fun _ _ _ h => nomatch h.1) (by first | exact fun _ h => h | (intro r h; cases h; done) | exact (Sub.mem (by repeat (first | exact Sub.refl | apply Sub.cons)))) rfl (by exact Stab.fieldZ rfl (tysOk.get rfl) rfl rfl (tysOk.get rfl) rfl) rfl rfl ?_); (refine TrA.take 3 (by kernel_rfl) rfl (by kernel_rfl) (by first | exact fun _ _ _ h => h | exact fun _ _ _ h => nomatch h.1) (by first | exact fun _ h => h | (intro r h; cases h; done) | exact (Sub.mem (by repeat (first | exact Sub.refl | apply Sub.cons)))) rfl (by exact Stab.load rfl (tysOk.get rfl) rfl (by repeat (first | exact Has.here | apply Has.there)) rfl) rfl rfl ?_); (refine TrA.take 4 (by kernel_rfl) rfl (by kernel_rfl) (by first | exact fun _ _ _ h => h | exact fun _ _ _ h => nomatch h.1) (by first | exact fun _ h => h | (intro r h; cases h; done) | exact (Sub.mem (by repeat (first | exact Sub.refl | apply Sub.cons)))) rfl (by exact Stab.fieldZ rfl (tysOk.get rfl) rfl rfl (tysOk.get rfl) rfl) rfl rfl ?_); (refine TrA.take 5 (by kernel_rfl) rfl (by kernel_rfl) (by first | exact fun _ _ _ h => h | exact fun _ _ _ h => nomatch h.1) (by first | exact fun _ h => h | (intro r h; cases h; done) | exact (Sub.mem (by repeat (first | exact Sub.refl | apply Sub.cons)))) rfl (by exact Stab.load rfl (tysOk.get rfl) rfl (by repeat (first | exact Has.here | apply Has.there)) rfl) rfl rfl ?_); (refine TrA.eff 6 rfl (by kernel_rfl) (by first | exact .inl rfl | exact .inr ⟨_, _, _, rfl, rfl, rfl⟩) ?_))
        refine Exec.call0 rfl (sector_full M1 A3 k3 y.2 hb3 y3) rfl ?_
        rintro _ M2 hm2 ⟨A4, k4, rfl, hb4⟩
        refine ⟨hm2, (by first | exact fun _ h => h | (intro r h; cases h; done) | exact (Sub.mem (by repeat (first | exact Sub.refl | apply Sub.cons)))), ?_⟩
        ((refine TrA.take 7 (by kernel_rfl) rfl (by kernel_rfl) (by first | exact fun _ _ _ h => h | exact fun _ _ _ h => nomatch h.1) (by first | exact fun _ h => h | (intro r h; cases h; done) | exact (Sub.mem (by repeat (first | exact Sub.refl | apply Sub.cons)))) rfl (by exact Stab.indexB0 rfl rfl (tysOk.get rfl) rfl (tysOk.get rfl) rfl (by omega) (by omega)) rfl rfl ?_); (refine TrA.effD 8 rfl (by kernel_rfl) (by kernel_rfl) (by first | exact .inl rfl | exact .inr ⟨_, _, _, rfl, rfl, rfl⟩) ?_); (((refine Knd.store ?_); ((refine Exec.storeS rfl rfl (tysOk.get rfl) rfl (by first | rfl | assumption) (by repeat (first | exact Upd.here | apply Upd.there)) (by omega) ?_)))); (refine ⟨_, fun _ h => h, ?_⟩); (refine TrA.done (by kernel_rfl) ?_))
        repeat (first | ((with_reducible refine Tr.step rfl ?_); (first | ((with_reducible refine Knd.move ?_); (refine Exec.stab rfl (Stab.move rfl) rfl ?_)) | ((with_reducible refine Knd.binOp ?_); ((refine Exec.stab rfl (Stab.addi rfl rfl (by omega)) rfl ?_))))) | (with_reducible refine Tr.next ?_) | (with_reducible refine Tr.region ?_) | (with_reducible refine Tr.nil ?_) | (with_reducible refine Tr.in_normal ?_))
        have hps := perf_step (i := y.1.toNat) (perf_length sec (pen.take i)).symm hcs hone hel hm2 hb4
        refine Tr.again (i + 1, M2, _) ⟨by simp only; omega, hm1.trans hm2, hps.1, hps.2.1, by simp only; rw [perf_take hy]; exact hps.2.2⟩ (by simp only; omega) (holds_sub (by repeat (first | exact SubFr.nil | refine SubFr.cons rfl ?_)) (by repeat (first | exact DropL.refl | apply DropL.skip)))
      · have e : i = m := by omega
        subst e
        obtain ⟨y, hy⟩ := get_of_lt (show i < pen.length by omega)
        obtain ⟨hA3, ch3, hat3, A3, k3, rfl, hb3⟩ := (h2.mono RWr.mono hm1).elem hy
        obtain ⟨y1, y2, y3⟩ := q4 y (getElem_mem' hy)
        have hpl := perf_length sec (pen.take i)
        obtain ⟨z, hz⟩ := get_of_lt (show y.1.toNat < (perf sec (pen.take i)).length by omega)
        have hcap := BSl.cap hb3
        have hrow : Row M1 A3 64 1 (byteV (y.2.take 64)) := by
          have := hcap.2.take (k := 64) (by omega)
          rwa [byteV, ← List.map_take] at this
        obtain ⟨A5, k5, hcz0, hbz⟩ := sec_cell hel hz
        have hcz : nthL cs y.1.toNat = some (.slice A5 z.length k5) := by rw [nthL_eq]; exact hcz0
        have hzl : z.length = 128 := perf_all q0 (fun w hw => (q4 w (List.mem_of_mem_take hw)).2.2) z (getElem_mem' hz)
        repeat (first | ((with_reducible refine Tr.step rfl ?_); (first | ((with_reducible refine Knd.move ?_); (refine Exec.stab rfl (Stab.move rfl) rfl ?_)) | ((with_reducible refine Knd.load ?_); (first | (refine Exec.stab rfl (Stab.load rfl (tysOk.get rfl) rfl (by repeat (first | exact Has.here | apply Has.there)) rfl) rfl ?_) | (refine Exec.stab rfl (Stab.load rfl (tysOk.get rfl) rfl (by repeat (first | exact Has.here | apply Has.there)) (by assumption)) rfl ?_) | (refine Exec.stab rfl (Stab.loadMA rfl (tysOk.get rfl) rfl (by assumption) rfl) rfl ?_))) | ((with_reducible refine Knd.fieldAddr ?_); ((refine Exec.stab rfl (Stab.fieldZ rfl (tysOk.get rfl) rfl rfl (tysOk.get rfl) rfl) rfl ?_))) | ((with_reducible refine Knd.binOp ?_); (first | (refine Exec.stab rfl (Stab.subi rfl rfl (by omega)) rfl ?_) | (refine Exec.stab rfl (Stab.int rfl rfl rfl) rfl ?_))) | ((with_reducible refine Knd.store ?_); (first | (refine Exec.store rfl rfl (tysOk.get rfl) rfl (by first | rfl | assumption) (by repeat (first | exact Upd.here | apply Upd.there)) (by repeat (first | exact SetL.z | apply SetL.s)) ?_) | (refine Exec.storeW rfl rfl (tysOk.get rfl) (by repeat (first | exact Upd.here | apply Upd.there)) rfl rfl (by repeat (first | exact AllOne.nil | refine AllOne.cons (by first | rfl | assumption) ?_)) ?_))) | ((with_reducible refine Knd.alloc ?_); (first | (refine Exec.alloc (tysOk.get rfl) rfl rfl (fun b => ?_)) | (refine Exec.alloc1 (tysOk.get rfl) rfl rfl rfl (fun b => ?_)))) | ((with_reducible refine Knd.indexAddr ?_); (first | (refine Exec.stab rfl (Stab.indexB0 rfl rfl (tysOk.get rfl) rfl (tysOk.get rfl) rfl (by omega) (by omega)) rfl ?_) | (refine Exec.stab rfl (Stab.indexAddr rfl rfl (tysOk.get rfl) rfl (tysOk.get rfl) rfl (by omega) (by omega) (by first | rfl | assumption)) rfl ?_))))) | (with_reducible refine Tr.next ?_) | (with_reducible refine Tr.seq ?_) | (with_reducible refine Tr.region ?_) | (with_reducible refine Tr.nil ?_) | (with_reducible refine Tr.skip ?_) | (with_reducible refine Tr.exit ?_) | (with_reducible refine Tr.then_exit ?_) | ((with_reducible refine Tr.in_exit ?_ ?_); (exact rfl)) | (refine Tr.cond_t rfl (by first | assumption | omega) ?_) | (refine Tr.cond_f rfl (by first | assumption | omega) ?_))
        ((refine Tr.step rfl ?_))
        refine Exec.call (A := []) rfl (sector_own M1 A5 k5 z hbz (by omega)) (List.Perm.refl _) rfl ?_
        rintro _ _ _ - ⟨rfl, bz, rfl, rfl⟩
        repeat (first | ((with_reducible refine Tr.step rfl ?_); (first | ((with_reducible refine Knd.move ?_); (refine Exec.stab rfl (Stab.move rfl) rfl ?_)) | ((with_reducible refine Knd.assign ?_); (refine Exec.stab rfl (Stab.assign rfl) rfl ?_)) | ((with_reducible refine Knd.load ?_); ((refine Exec.stab rfl (Stab.load rfl (tysOk.get rfl) rfl (by repeat (first | exact Has.here | apply Has.there)) rfl) rfl ?_))) | ((with_reducible refine Knd.fieldAddr ?_); ((refine Exec.stab rfl (Stab.fieldZ rfl (tysOk.get rfl) rfl rfl (tysOk.get rfl) rfl) rfl ?_))) | ((with_reducible refine Knd.slice ?_); ((refine Exec.stab rfl (Stab.slice_h rfl rfl (tysOk.get rfl) rfl (tysOk.get rfl) (by omega) (by omega)) rfl ?_))))) | (with_reducible refine Tr.next ?_) | (with_reducible refine Tr.seq ?_) | (with_reducible refine Tr.region ?_) | (with_reducible refine Tr.nil ?_))
        ((refine Tr.step rfl ?_))
        refine Exec.copy (news := byteV (y.2.take 64)) rfl rfl (tysOk.get rfl) rfl (tysOk.get rfl) rfl (Src.row_min hrow) (by simp; omega) (byteV_one _) (by simp [pad_length (show z.length ≤ 128 by omega)]) Upd.here rfl ?_
        repeat (first | ((with_reducible refine Tr.step rfl ?_); (first | ((with_reducible refine Knd.move ?_); (refine Exec.stab rfl (Stab.move rfl) rfl ?_)) | ((with_reducible refine Knd.assign ?_); (refine Exec.stab rfl (Stab.assign rfl) rfl ?_)) | ((with_reducible refine Knd.load ?_); (first | (refine Exec.stab rfl (Stab.load rfl (tysOk.get rfl) rfl (by repeat (first | exact Has.here | apply Has.there)) rfl) rfl ?_) | (refine Exec.stab rfl (Stab.loadW rfl (tysOk.get rfl) rfl (by repeat (first | exact Has.here | apply Has.there)) rfl) rfl ?_))) | ((with_reducible refine Knd.fieldAddr ?_); ((refine Exec.stab rfl (Stab.fieldZ rfl (tysOk.get rfl) rfl rfl (tysOk.get rfl) rfl) rfl ?_))) | ((with_reducible refine Knd.store ?_); (first | (refine Exec.store rfl rfl (tysOk.get rfl) rfl (by first | rfl | assumption) (by repeat (first | exact Upd.here | apply Upd.there)) (by repeat (first | exact SetL.z | apply SetL.s)) ?_) | (refine Exec.storeW rfl rfl (tysOk.get rfl) (by repeat (first | exact Upd.here | apply Upd.there)) rfl rfl (by repeat (first | exact AllOne.nil | refine AllOne.cons (by first | rfl | assumption) ?_)) ?_) | (refine Exec.storeS rfl rfl (tysOk.get rfl) rfl (by first | rfl | assumption) (by repeat (first | exact Upd.here | apply Upd.there)) (by omega) ?_))) | ((with_reducible refine Knd.indexAddr ?_); ((refine Exec.stab rfl (Stab.indexB0 rfl rfl (tysOk.get rfl) rfl (tysOk.get rfl) rfl (by omega) (by omega)) rfl ?_))))) | (with_reducible refine Tr.next ?_) | (with_reducible refine Tr.seq ?_) | (with_reducible refine Tr.region ?_) | (with_reducible refine Tr.nil ?_) | (with_reducible refine Tr.ret ?_))
        have ec : List.take 0 (byteV (pad z)) ++ byteV (y.2.take 64) ++ List.drop (0 + (byteV (y.2.take 64)).length) (byteV (pad z)) = byteV (y.2.take 64 ++ z.drop 64) := by
          rw [pad_full hzl, byteV_append]
          simp [byteV, List.map_drop, y3]
        rw [ec]
        refine Tr.publish Del.here (fun M2 hm2 hok2 => ?_)
        refine Tr.publish (r := box g 35 _) (by repeat (first | exact Del.here | apply Del.there)) (fun M3 hm3 hok3 => ?_)
        have hm := (hm1.trans hm2).trans hm3
        have hxl : (y.2.take 64 ++ z.drop 64).length = 128 := by simp [y3, hzl]
        have hbx := BSl.of_box hok2 (by omega)
        have hps := perf_step (i := y.1.toNat) hpl.symm hcs hone hel (hm2.trans hm3) (hbx.mono hm3)
        rw [hxl] at hps
        (refine Tr.done (by first | exact .inl rfl | exact .inr rfl) rfl (by repeat (first | exact RVs.nil | (apply RVs.cons; (first | exact RV.tmp rfl | exact RV.cellW (by rfl) (tysOk.get (by rfl)) (by rfl) (by repeat (first | exact Has.here | apply Has.there)) (by rfl))))) (by first | exact Mem.le.refl _ | assumption) (by exact ⟨[_, _, _], rfl⟩) ⟨rfl, ?_⟩)
        have er : syncF ⟨sec, pen, i, stop⟩ = (⟨(perf sec (pen.take i)).set y.1.toNat (y.2.take 64 ++ z.drop 64), [], 0, true⟩, 440) := by
          unfold syncF
          rw [if_pos hk]
          dsimp only
          rw [if_pos ⟨hl1, hl2⟩]
          simp [hy, hz]
        rw [er]
        have hs := SlOf.ofBoxC (sz := 1) (R := RSec) (c := c') hok3 (show sec.length = ((perf sec (pen.take i)).set y.1.toNat (y.2.take 64 ++ z.drop 64)).length by simp [hpl]) (by rw [hps.1]; omega) hnc hc' (by rw [Nat.mul_one]; exact hps.2.1) (by rw [Nat.mul_one]; exact hps.2.2)
        have hsl : ((perf sec (pen.take i)).set y.1.toNat (y.2.take 64 ++ z.drop 64)).length = sec.length := by simp [hpl]
        refine ⟨_, rfl, some ⟨g, 0, none⟩, c', none, 0, ?_, hs, SlOf.nil _ _ _⟩
        dsimp only
        rw [hsl, Int.sub_self]
        rfl
    · by_cases hL : left = -1
      · skip
        repeat (first | ((with_reducible refine Tr.step rfl ?_); (first | ((with_reducible refine Knd.move ?_); (refine Exec.stab rfl (Stab.move rfl) rfl ?_)) | ((with_reducible refine Knd.assign ?_); (refine Exec.stab rfl (Stab.assign rfl) rfl ?_)) | ((with_reducible refine Knd.load ?_); (first | (refine Exec.stab rfl (Stab.load rfl (tysOk.get rfl) rfl (by repeat (first | exact Has.here | apply Has.there)) rfl) rfl ?_) | (refine Exec.stab rfl (Stab.loadW rfl (tysOk.get rfl) rfl (by repeat (first | exact Has.here | apply Has.there)) rfl) rfl ?_))) | ((with_reducible refine Knd.fieldAddr ?_); ((refine Exec.stab rfl (Stab.fieldZ rfl (tysOk.get rfl) rfl rfl (tysOk.get rfl) rfl) rfl ?_))) | ((with_reducible refine Knd.len ?_); (first | (refine Exec.stab rfl (Stab.len rfl (tysOk.get rfl) rfl) rfl ?_) | (refine Exec.stab rfl (Stab.lens rfl (tysOk.get rfl) rfl) rfl ?_))) | ((with_reducible refine Knd.binOp ?_); ((refine Exec.stab rfl (Stab.int rfl rfl rfl) rfl ?_))) | ((with_reducible refine Knd.pick ?_); ((refine Exec.stab rfl (Stab.pick_fd rfl (by first | assumption | omega) rfl) rfl ?_))) | ((with_reducible refine Knd.store ?_); (first | (refine Exec.store rfl rfl (tysOk.get rfl) rfl (by first | rfl | assumption) (by repeat (first | exact Upd.here | apply Upd.there)) (by repeat (first | exact SetL.z | apply SetL.s)) ?_) | (refine Exec.storeW rfl rfl (tysOk.get rfl) (by repeat (first | exact Upd.here | apply Upd.there)) rfl rfl (by repeat (first | exact AllOne.nil | refine AllOne.cons (by first | rfl | assumption) ?_)) ?_))))) | (with_reducible refine Tr.next ?_) | (with_reducible refine Tr.seq ?_) | (with_reducible refine Tr.region ?_) | (with_reducible refine Tr.nil ?_) | (refine Tr.guard_n rfl rfl rfl (by first | assumption | omega) rfl rfl ?_) | (with_reducible refine Tr.skip ?_) | (refine Tr.cond_bf rfl (by first | (with_reducible rfl) | assumption | (with_reducible exact Bool.not_true) | (with_reducible exact Bool.not_false)) ?_) | (refine Tr.cond_f rfl (by first | assumption | omega) ?_))
        ((refine Tr.step rfl ?_))
        refine Exec.call (A := []) rfl (clone_own M A c sec.length cells g5 g1 g2 g3 q1 q2) (List.Perm.refl _) rfl ?_
        rintro _ _ _ - ⟨rfl, A2, c', rfl, hc', rfl⟩
        refine Tr.own_open Del.here (by omega) (fun g cur hA2 hnc hcl hct => ?_)
        subst hA2
        rw [Nat.mul_one] at hcl hct
        repeat (first | ((with_reducible refine Tr.step rfl ?_); (first | ((with_reducible refine Knd.move ?_); (refine Exec.stab rfl (Stab.move rfl) rfl ?_)) | ((with_reducible refine Knd.load ?_); ((refine Exec.stab rfl (Stab.load rfl (tysOk.get rfl) rfl (by repeat (first | exact Has.here | apply Has.there)) rfl) rfl ?_))) | ((with_reducible refine Knd.fieldAddr ?_); ((refine Exec.stab rfl (Stab.fieldZ rfl (tysOk.get rfl) rfl rfl (tysOk.get rfl) rfl) rfl ?_))) | ((with_reducible refine Knd.len ?_); (first | (refine Exec.stab rfl (Stab.len rfl (tysOk.get rfl) rfl) rfl ?_) | (refine Exec.stab rfl (Stab.lens rfl (tysOk.get rfl) rfl) rfl ?_))) | ((with_reducible refine Knd.store ?_); ((refine Exec.store rfl rfl (tysOk.get rfl) rfl (by first | rfl | assumption) (by repeat (first | exact Upd.here | apply Upd.there)) (by repeat (first | exact SetL.z | apply SetL.s)) ?_))) | ((with_reducible refine Knd.slice ?_); ((refine Exec.stab rfl (Stab.slice_hm rfl rfl rfl (tysOk.get rfl) rfl (tysOk.get rfl) (by omega) (by omega) (by omega)) rfl ?_))))) | (with_reducible refine Tr.next ?_) | (with_reducible refine Tr.seq ?_) | (with_reducible refine Tr.region ?_) | (with_reducible refine Tr.nil ?_) | (with_reducible refine Tr.block ?_))
        refine Tr.loop (α := Nat × Mem × List Value) (fun x => ⟨94, [(44, .int .i64 x.1), (43, .int .i64 (pen.length : Int)), (42, .slice B pen.length pen.length), (6, .int .i64 (pen.length : Int)), (5, .int .i64 pen.length), (3, .int .i64 0), (2, .pointer (some ⟨_, 0, none⟩)), (1, .pointer (some ⟨_, 0, none⟩))], [], x.2.1, box g 35 x.2.2 :: _⟩)
          (fun x => x.1 ≤ pen.length ∧ Mem.le M x.2.1 ∧ x.2.2.length = c' ∧ (∀ u ∈ x.2.2.take sec.length, u.oneCell' = true) ∧ Elems 1 RSec x.2.1 (x.2.2.take sec.length) (perf sec (pen.take x.1)))
          (fun x => pen.length - x.1) (0, M, cur) ⟨Nat.zero_le _, Mem.le.refl _, hcl, by rw [hct]; exact g5.one, by rw [hct]; exact g6⟩ (holds_sub (by repeat (first | exact SubFr.nil | refine SubFr.cons rfl ?_)) (by repeat (first | exact DropL.refl | apply DropL.skip))) (fun x hi => ?_)
        obtain ⟨i, M1, cs⟩ := x
        obtain ⟨hi, hm1, hcs, hone, hel⟩ := hi
        simp only at hi hm1 hcs hone hel
        dsimp only
        by_cases hlt : i < pen.length
        · obtain ⟨y, hy⟩ := get_of_lt (show i < pen.length by omega)
          obtain ⟨hA3, ch3, hat3, A3, k3, rfl, hb3⟩ := (h2.mono RWr.mono hm1).elem hy
          have hyl := q4 y (getElem_mem' hy)
          obtain ⟨y1, y2, y3⟩ := hyl
          repeat (first | ((with_reducible refine Tr.step rfl ?_); (first | ((with_reducible refine Knd.load ?_); ((refine Exec.stab rfl (Stab.loadMA rfl (tysOk.get rfl) rfl (by assumption) rfl) rfl ?_))) | ((with_reducible refine Knd.binOp ?_); ((refine Exec.stab rfl (Stab.int rfl rfl rfl) rfl ?_))) | ((with_reducible refine Knd.store ?_); ((refine Exec.storeW rfl rfl (tysOk.get rfl) (by repeat (first | exact Upd.here | apply Upd.there)) rfl rfl (by repeat (first | exact AllOne.nil | refine AllOne.cons (by first | rfl | assumption) ?_)) ?_))) | ((with_reducible refine Knd.alloc ?_); (first | (refine Exec.alloc (tysOk.get rfl) rfl rfl (fun b => ?_)) | (refine Exec.alloc1 (tysOk.get rfl) rfl rfl rfl (fun b => ?_)))) | ((with_reducible refine Knd.indexAddr ?_); ((refine Exec.stab rfl (Stab.indexAddr rfl rfl (tysOk.get rfl) rfl (tysOk.get rfl) rfl (by omega) (by omega) (by first | rfl | assumption)) rfl ?_))))) | (with_reducible refine Tr.next ?_) | (with_reducible refine Tr.seq ?_) | (with_reducible refine Tr.region ?_) | (with_reducible refine Tr.nil ?_) | (with_reducible refine Tr.skip ?_) | (with_reducible refine Tr.block ?_) | (refine Tr.cond_t rfl (by first | assumption | omega) ?_))
          (((apply Tr.draw); (kernel_rfl)); (refine TrA.take 0 (by kernel_rfl) rfl (by kernel_rfl) (by first | exact fun _ _ _ h => h | exact fun _ _ _ h => nomatch h.1) (by first | exact fun _ h => h | (intro r h; cases h; done) | exact (Sub.mem (by repeat (first | exact Sub.refl | apply Sub.cons)))) rfl (by exact Stab.fieldZ rfl (tysOk.get rfl) rfl rfl (tysOk.get rfl) rfl) rfl rfl ?_); (refine TrA.take 1 (by kernel_rfl) rfl (by kernel_rfl) (by first | exact fun _ _ _ h => h | exact fun _ _ _ h => nomatch h.1) (by first | exact fun _ h => h | (intro r h; cases h; done) | exact (Sub.mem (by repeat (first | exact Sub.refl | apply Sub.cons)))) rfl (by exact Stab.load rfl (tysOk.get rfl) rfl (by repeat (first | exact Has.here | apply Has.there)) rfl) rfl rfl ?_); (refine TrA.take 2 (by kernel_rfl) rfl (by kernel_rfl) (by first | exact fun _ _ _ h => h | exact fun _ _ _ h => nomatch h.1) (by first | exact fun _ h => h | (intro r h; cases h; done) | exact (Sub.mem (by repeat (first | exact Sub.refl | apply Sub.cons)))) rfl (by exact Stab.fieldZ rfl (tysOk.get rfl) rfl rfl (tysOk.get rfl) rfl) rfl rfl ?_); (refine TrA.take 3 (by kernel_rfl) rfl (by kernel_rfl) (by first | exact fun _ _ _ h => h | exact fun _ _ _ h => nomatch h.1) (by first | exact fun _ h => h | (intro r h; cases h; done) | exact (Sub.mem (by repeat (first | exact Sub.refl | apply Sub.cons)))) rfl (by exact Stab.load rfl (tysOk.get rfl) rfl (by repeat (first | exact Has.here | apply Has.there)) rfl) rfl rfl ?_); (refine TrA.take 4 (by kernel_rfl) rfl (by kernel_rfl) (by first | exact fun _ _ _ h => h | exact fun _ _ _ h => nomatch h.1) (by first | exact fun _ h => h | (intro r h; cases h; done) | exact (Sub.mem (by repeat (first | exact Sub.refl | apply Sub.cons)))) rfl (by exact Stab.fieldZ rfl (tysOk.get rfl) rfl rfl (tysOk.get rfl) rfl) rfl rfl ?_); (refine TrA.take 5 (by kernel_rfl) rfl (by kernel_rfl) (by first | exact fun _ _ _ h => h | exact fun _ _ _ h => nomatch h.1) (by first | exact fun _ h => h | (intro r h; cases h; done) | exact (Sub.mem (by repeat (first | exact Sub.refl | apply Sub.cons)))) rfl (by exact Stab.load rfl (tysOk.get rfl) rfl (by repeat (first | exact Has.here | apply Has.there)) rfl) rfl rfl ?_); (refine TrA.eff 6 rfl (by kernel_rfl) (by first | exact .inl rfl | exact .inr ⟨_, _, _, rfl, rfl, rfl⟩) ?_))
          refine Exec.call0 rfl (sector_full M1 A3 k3 y.2 hb3 y3) rfl ?_
          rintro _ M2 hm2 ⟨A4, k4, rfl, hb4⟩
          refine ⟨hm2, (by first | exact fun _ h => h | (intro r h; cases h; done) | exact (Sub.mem (by repeat (first | exact Sub.refl | apply Sub.cons)))), ?_⟩
          ((refine TrA.take 7 (by kernel_rfl) rfl (by kernel_rfl) (by first | exact fun _ _ _ h => h | exact fun _ _ _ h => nomatch h.1) (by first | exact fun _ h => h | (intro r h; cases h; done) | exact (Sub.mem (by repeat (first | exact Sub.refl | apply Sub.cons)))) rfl (by exact Stab.indexB0 rfl rfl (tysOk.get rfl) rfl (tysOk.get rfl) rfl (by omega) (by omega)) rfl rfl ?_); (refine TrA.effD 8 rfl (by kernel_rfl) (by kernel_rfl) (by first | exact .inl rfl | exact .inr ⟨_, _, _, rfl, rfl, rfl⟩) ?_); (((refine Knd.store ?_); ((refine Exec.storeS rfl rfl (tysOk.get rfl) rfl (by first | rfl | assumption) (by repeat (first | exact Upd.here | apply Upd.there)) (by omega) ?_)))); (refine ⟨_, fun _ h => h, ?_⟩); (refine TrA.done (by kernel_rfl) ?_))
          repeat (first | ((with_reducible refine Tr.step rfl ?_); (first | ((with_reducible refine Knd.move ?_); (refine Exec.stab rfl (Stab.move rfl) rfl ?_)) | ((with_reducible refine Knd.binOp ?_); ((refine Exec.stab rfl (Stab.addi rfl rfl (by omega)) rfl ?_))))) | (with_reducible refine Tr.next ?_) | (with_reducible refine Tr.region ?_) | (with_reducible refine Tr.nil ?_) | (with_reducible refine Tr.in_normal ?_))
          have hps := perf_step (i := y.1.toNat) (perf_length sec (pen.take i)).symm hcs hone hel hm2 hb4
          refine Tr.again (i + 1, M2, _) ⟨by simp only; omega, hm1.trans hm2, hps.1, hps.2.1, by simp only; rw [perf_take hy]; exact hps.2.2⟩ (by simp only; omega) (holds_sub (by repeat (first | exact SubFr.nil | refine SubFr.cons rfl ?_)) (by repeat (first | exact DropL.refl | apply DropL.skip)))
        · have e : i = pen.length := by omega
          subst e
          repeat (first | ((with_reducible refine Tr.step rfl ?_); (first | ((with_reducible refine Knd.move ?_); (refine Exec.stab rfl (Stab.move rfl) rfl ?_)) | ((with_reducible refine Knd.assign ?_); (refine Exec.stab rfl (Stab.assign rfl) rfl ?_)) | ((with_reducible refine Knd.load ?_); (first | (refine Exec.stab rfl (Stab.load rfl (tysOk.get rfl) rfl (by repeat (first | exact Has.here | apply Has.there)) rfl) rfl ?_) | (refine Exec.stab rfl (Stab.loadW rfl (tysOk.get rfl) rfl (by repeat (first | exact Has.here | apply Has.there)) rfl) rfl ?_))) | ((with_reducible refine Knd.fieldAddr ?_); ((refine Exec.stab rfl (Stab.fieldZ rfl (tysOk.get rfl) rfl rfl (tysOk.get rfl) rfl) rfl ?_))) | ((with_reducible refine Knd.binOp ?_); ((refine Exec.stab rfl (Stab.int rfl rfl rfl) rfl ?_))) | ((with_reducible refine Knd.store ?_); ((refine Exec.storeW rfl rfl (tysOk.get rfl) (by repeat (first | exact Upd.here | apply Upd.there)) rfl rfl (by repeat (first | exact AllOne.nil | refine AllOne.cons (by first | rfl | assumption) ?_)) ?_))))) | (with_reducible refine Tr.next ?_) | (with_reducible refine Tr.seq ?_) | (with_reducible refine Tr.region ?_) | (with_reducible refine Tr.nil ?_) | (with_reducible refine Tr.skip ?_) | (with_reducible refine Tr.exit ?_) | (with_reducible refine Tr.ret ?_) | (with_reducible refine Tr.then_exit ?_) | (with_reducible refine Tr.then_ret ?_) | ((with_reducible refine Tr.in_exit ?_ ?_); (exact rfl)) | (refine Tr.cond_t rfl (by first | assumption | omega) ?_) | (refine Tr.cond_f rfl (by first | assumption | omega) ?_))
          refine Tr.publish (r := box g 35 _) (by repeat (first | exact Del.here | apply Del.there)) (fun M3 hm3 hok3 => ?_)
          have hm := hm1.trans hm3
          (refine Tr.done (by first | exact .inl rfl | exact .inr rfl) rfl (by repeat (first | exact RVs.nil | (apply RVs.cons; (first | exact RV.tmp rfl | exact RV.cellW (by rfl) (tysOk.get (by rfl)) (by rfl) (by repeat (first | exact Has.here | apply Has.there)) (by rfl))))) (by first | exact Mem.le.refl _ | assumption) (by exact ⟨[_, _], rfl⟩) ⟨rfl, ?_⟩)
          rw [List.take_length] at hel
          have hpl := perf_length sec pen
          have er : syncF ⟨sec, pen, left, stop⟩ = (⟨perf sec pen, [], if 0 ≤ left then left - pen.length else -1, false⟩, 0) := by
            unfold syncF
            rw [if_pos hk]
            dsimp only
            rw [if_neg hl]
          rw [er]
          have hs := SlOf.ofBoxC (sz := 1) (R := RSec) (c := c') hok3 hpl.symm (by rw [hcs]; omega) hnc hc' (by rw [Nat.mul_one]; exact hone) (by rw [Nat.mul_one]; exact hel.mono RSec.mono hm3)
          refine ⟨_, rfl, some ⟨g, 0, none⟩, c', none, 0, ?_, hs, SlOf.nil _ _ _⟩
          dsimp only
          rw [hpl, q7, if_neg (by omega), hL]
          rfl
      · have hL2 : (pen.length : Int) ≤ left := by omega
        repeat (first | ((with_reducible refine Tr.step rfl ?_); (first | ((with_reducible refine Knd.move ?_); (refine Exec.stab rfl (Stab.move rfl) rfl ?_)) | ((with_reducible refine Knd.assign ?_); (refine Exec.stab rfl (Stab.assign rfl) rfl ?_)) | ((with_reducible refine Knd.load ?_); (first | (refine Exec.stab rfl (Stab.load rfl (tysOk.get rfl) rfl (by repeat (first | exact Has.here | apply Has.there)) rfl) rfl ?_) | (refine Exec.stab rfl (Stab.loadW rfl (tysOk.get rfl) rfl (by repeat (first | exact Has.here | apply Has.there)) rfl) rfl ?_))) | ((with_reducible refine Knd.fieldAddr ?_); ((refine Exec.stab rfl (Stab.fieldZ rfl (tysOk.get rfl) rfl rfl (tysOk.get rfl) rfl) rfl ?_))) | ((with_reducible refine Knd.len ?_); (first | (refine Exec.stab rfl (Stab.len rfl (tysOk.get rfl) rfl) rfl ?_) | (refine Exec.stab rfl (Stab.lens rfl (tysOk.get rfl) rfl) rfl ?_))) | ((with_reducible refine Knd.binOp ?_); ((refine Exec.stab rfl (Stab.int rfl rfl rfl) rfl ?_))) | ((with_reducible refine Knd.pick ?_); ((refine Exec.stab rfl (Stab.pick_td rfl (by first | assumption | omega) rfl) rfl ?_))) | ((with_reducible refine Knd.store ?_); (first | (refine Exec.store rfl rfl (tysOk.get rfl) rfl (by first | rfl | assumption) (by repeat (first | exact Upd.here | apply Upd.there)) (by repeat (first | exact SetL.z | apply SetL.s)) ?_) | (refine Exec.storeW rfl rfl (tysOk.get rfl) (by repeat (first | exact Upd.here | apply Upd.there)) rfl rfl (by repeat (first | exact AllOne.nil | refine AllOne.cons (by first | rfl | assumption) ?_)) ?_))))) | (with_reducible refine Tr.next ?_) | (with_reducible refine Tr.seq ?_) | (with_reducible refine Tr.region ?_) | (with_reducible refine Tr.nil ?_) | ((refine Tr.guard_y rfl rfl rfl (by first | assumption | omega) ?_); (first | ((with_reducible refine Knd.move ?_); (refine Exec.stab rfl (Stab.move rfl) rfl ?_)) | ((with_reducible refine Knd.load ?_); ((refine Exec.stab rfl (Stab.load rfl (tysOk.get rfl) rfl (by repeat (first | exact Has.here | apply Has.there)) rfl) rfl ?_))) | ((with_reducible refine Knd.fieldAddr ?_); ((refine Exec.stab rfl (Stab.fieldZ rfl (tysOk.get rfl) rfl rfl (tysOk.get rfl) rfl) rfl ?_))) | ((with_reducible refine Knd.binOp ?_); ((refine Exec.stab rfl (Stab.int rfl rfl rfl) rfl ?_))))) | (with_reducible refine Tr.skip ?_) | (refine Tr.cond_f rfl (by first | assumption | omega) ?_))
        ((refine Tr.step rfl ?_))
        refine Exec.call (A := []) rfl (clone_own M A c sec.length cells g5 g1 g2 g3 q1 q2) (List.Perm.refl _) rfl ?_
        rintro _ _ _ - ⟨rfl, A2, c', rfl, hc', rfl⟩
        refine Tr.own_open Del.here (by omega) (fun g cur hA2 hnc hcl hct => ?_)
        subst hA2
        rw [Nat.mul_one] at hcl hct
        repeat (first | ((with_reducible refine Tr.step rfl ?_); (first | ((with_reducible refine Knd.move ?_); (refine Exec.stab rfl (Stab.move rfl) rfl ?_)) | ((with_reducible refine Knd.load ?_); ((refine Exec.stab rfl (Stab.load rfl (tysOk.get rfl) rfl (by repeat (first | exact Has.here | apply Has.there)) rfl) rfl ?_))) | ((with_reducible refine Knd.fieldAddr ?_); ((refine Exec.stab rfl (Stab.fieldZ rfl (tysOk.get rfl) rfl rfl (tysOk.get rfl) rfl) rfl ?_))) | ((with_reducible refine Knd.len ?_); (first | (refine Exec.stab rfl (Stab.len rfl (tysOk.get rfl) rfl) rfl ?_) | (refine Exec.stab rfl (Stab.lens rfl (tysOk.get rfl) rfl) rfl ?_))) | ((with_reducible refine Knd.store ?_); ((refine Exec.store rfl rfl (tysOk.get rfl) rfl (by first | rfl | assumption) (by repeat (first | exact Upd.here | apply Upd.there)) (by repeat (first | exact SetL.z | apply SetL.s)) ?_))) | ((with_reducible refine Knd.slice ?_); ((refine Exec.stab rfl (Stab.slice_hm rfl rfl rfl (tysOk.get rfl) rfl (tysOk.get rfl) (by omega) (by omega) (by omega)) rfl ?_))))) | (with_reducible refine Tr.next ?_) | (with_reducible refine Tr.seq ?_) | (with_reducible refine Tr.region ?_) | (with_reducible refine Tr.nil ?_) | (with_reducible refine Tr.block ?_))
        refine Tr.loop (α := Nat × Mem × List Value) (fun x => ⟨94, [(44, .int .i64 x.1), (43, .int .i64 (pen.length : Int)), (42, .slice B pen.length pen.length), (6, .int .i64 (pen.length : Int)), (5, .int .i64 pen.length), (3, .int .i64 0), (2, .pointer (some ⟨_, 0, none⟩)), (1, .pointer (some ⟨_, 0, none⟩))], [], x.2.1, box g 35 x.2.2 :: _⟩)
          (fun x => x.1 ≤ pen.length ∧ Mem.le M x.2.1 ∧ x.2.2.length = c' ∧ (∀ u ∈ x.2.2.take sec.length, u.oneCell' = true) ∧ Elems 1 RSec x.2.1 (x.2.2.take sec.length) (perf sec (pen.take x.1)))
          (fun x => pen.length - x.1) (0, M, cur) ⟨Nat.zero_le _, Mem.le.refl _, hcl, by rw [hct]; exact g5.one, by rw [hct]; exact g6⟩ (holds_sub (by repeat (first | exact SubFr.nil | refine SubFr.cons rfl ?_)) (by repeat (first | exact DropL.refl | apply DropL.skip))) (fun x hi => ?_)
        obtain ⟨i, M1, cs⟩ := x
        obtain ⟨hi, hm1, hcs, hone, hel⟩ := hi
        simp only at hi hm1 hcs hone hel
        dsimp only
        by_cases hlt : i < pen.length
        · obtain ⟨y, hy⟩ := get_of_lt (show i < pen.length by omega)
          obtain ⟨hA3, ch3, hat3, A3, k3, rfl, hb3⟩ := (h2.mono RWr.mono hm1).elem hy
          have hyl := q4 y (getElem_mem' hy)
          obtain ⟨y1, y2, y3⟩ := hyl
          repeat (first | ((with_reducible refine Tr.step rfl ?_); (first | ((with_reducible refine Knd.load ?_); ((refine Exec.stab rfl (Stab.loadMA rfl (tysOk.get rfl) rfl (by assumption) rfl) rfl ?_))) | ((with_reducible refine Knd.binOp ?_); ((refine Exec.stab rfl (Stab.int rfl rfl rfl) rfl ?_))) | ((with_reducible refine Knd.store ?_); ((refine Exec.storeW rfl rfl (tysOk.get rfl) (by repeat (first | exact Upd.here | apply Upd.there)) rfl rfl (by repeat (first | exact AllOne.nil | refine AllOne.cons (by first | rfl | assumption) ?_)) ?_))) | ((with_reducible refine Knd.alloc ?_); (first | (refine Exec.alloc (tysOk.get rfl) rfl rfl (fun b => ?_)) | (refine Exec.alloc1 (tysOk.get rfl) rfl rfl rfl (fun b => ?_)))) | ((with_reducible refine Knd.indexAddr ?_); ((refine Exec.stab rfl (Stab.indexAddr rfl rfl (tysOk.get rfl) rfl (tysOk.get rfl) rfl (by omega) (by omega) (by first | rfl | assumption)) rfl ?_))))) | (with_reducible refine Tr.next ?_) | (with_reducible refine Tr.seq ?_) | (with_reducible refine Tr.region ?_) | (with_reducible refine Tr.nil ?_) | (with_reducible refine Tr.skip ?_) | (with_reducible refine Tr.block ?_) | (refine Tr.cond_t rfl (by first | assumption | omega) ?_))
          (((apply Tr.draw); (kernel_rfl)); (refine TrA.take 0 (by kernel_rfl) rfl (by kernel_rfl) (by first | exact fun _ _ _ h => h | exact fun _ _ _ h => nomatch h.1) (by first | exact fun _ h => h | (intro r h; cases h; done) | exact (Sub.mem (by repeat (first | exact Sub.refl | apply Sub.cons)))) rfl (by exact Stab.fieldZ rfl (tysOk.get rfl) rfl rfl (tysOk.get rfl) rfl) rfl rfl ?_); (refine TrA.take 1 (by kernel_rfl) rfl (by kernel_rfl) (by first | exact fun _ _ _ h => h | exact fun _ _ _ h => nomatch h.1) (by first | exact fun _ h => h | (intro r h; cases h; done) | exact (Sub.mem (by repeat (first | exact Sub.refl | apply Sub.cons)))) rfl (by exact Stab.load rfl (tysOk.get rfl) rfl (by repeat (first | exact Has.here | apply Has.there)) rfl) rfl rfl ?_); (refine TrA.take 2 (by kernel_rfl) rfl (by kernel_rfl) (by first | exact fun _ _ _ h => h | exact fun _ _ _ h => nomatch h.1) (by first | exact fun _ h => h | (intro r h; cases h; done) | exact (Sub.mem (by repeat (first | exact Sub.refl | apply Sub.cons)))) rfl (by exact Stab.fieldZ rfl (tysOk.get rfl) rfl rfl (tysOk.get rfl) rfl) rfl rfl ?_); (refine TrA.take 3 (by kernel_rfl) rfl (by kernel_rfl) (by first | exact fun _ _ _ h => h | exact fun _ _ _ h => nomatch h.1) (by first | exact fun _ h => h | (intro r h; cases h; done) | exact (Sub.mem (by repeat (first | exact Sub.refl | apply Sub.cons)))) rfl (by exact Stab.load rfl (tysOk.get rfl) rfl (by repeat (first | exact Has.here | apply Has.there)) rfl) rfl rfl ?_); (refine TrA.take 4 (by kernel_rfl) rfl (by kernel_rfl) (by first | exact fun _ _ _ h => h | exact fun _ _ _ h => nomatch h.1) (by first | exact fun _ h => h | (intro r h; cases h; done) | exact (Sub.mem (by repeat (first | exact Sub.refl | apply Sub.cons)))) rfl (by exact Stab.fieldZ rfl (tysOk.get rfl) rfl rfl (tysOk.get rfl) rfl) rfl rfl ?_); (refine TrA.take 5 (by kernel_rfl) rfl (by kernel_rfl) (by first | exact fun _ _ _ h => h | exact fun _ _ _ h => nomatch h.1) (by first | exact fun _ h => h | (intro r h; cases h; done) | exact (Sub.mem (by repeat (first | exact Sub.refl | apply Sub.cons)))) rfl (by exact Stab.load rfl (tysOk.get rfl) rfl (by repeat (first | exact Has.here | apply Has.there)) rfl) rfl rfl ?_); (refine TrA.eff 6 rfl (by kernel_rfl) (by first | exact .inl rfl | exact .inr ⟨_, _, _, rfl, rfl, rfl⟩) ?_))
          refine Exec.call0 rfl (sector_full M1 A3 k3 y.2 hb3 y3) rfl ?_
          rintro _ M2 hm2 ⟨A4, k4, rfl, hb4⟩
          refine ⟨hm2, (by first | exact fun _ h => h | (intro r h; cases h; done) | exact (Sub.mem (by repeat (first | exact Sub.refl | apply Sub.cons)))), ?_⟩
          ((refine TrA.take 7 (by kernel_rfl) rfl (by kernel_rfl) (by first | exact fun _ _ _ h => h | exact fun _ _ _ h => nomatch h.1) (by first | exact fun _ h => h | (intro r h; cases h; done) | exact (Sub.mem (by repeat (first | exact Sub.refl | apply Sub.cons)))) rfl (by exact Stab.indexB0 rfl rfl (tysOk.get rfl) rfl (tysOk.get rfl) rfl (by omega) (by omega)) rfl rfl ?_); (refine TrA.effD 8 rfl (by kernel_rfl) (by kernel_rfl) (by first | exact .inl rfl | exact .inr ⟨_, _, _, rfl, rfl, rfl⟩) ?_); (((refine Knd.store ?_); ((refine Exec.storeS rfl rfl (tysOk.get rfl) rfl (by first | rfl | assumption) (by repeat (first | exact Upd.here | apply Upd.there)) (by omega) ?_)))); (refine ⟨_, fun _ h => h, ?_⟩); (refine TrA.done (by kernel_rfl) ?_))
          repeat (first | ((with_reducible refine Tr.step rfl ?_); (first | ((with_reducible refine Knd.move ?_); (refine Exec.stab rfl (Stab.move rfl) rfl ?_)) | ((with_reducible refine Knd.binOp ?_); ((refine Exec.stab rfl (Stab.addi rfl rfl (by omega)) rfl ?_))))) | (with_reducible refine Tr.next ?_) | (with_reducible refine Tr.region ?_) | (with_reducible refine Tr.nil ?_) | (with_reducible refine Tr.in_normal ?_))
          have hps := perf_step (i := y.1.toNat) (perf_length sec (pen.take i)).symm hcs hone hel hm2 hb4
          refine Tr.again (i + 1, M2, _) ⟨by simp only; omega, hm1.trans hm2, hps.1, hps.2.1, by simp only; rw [perf_take hy]; exact hps.2.2⟩ (by simp only; omega) (holds_sub (by repeat (first | exact SubFr.nil | refine SubFr.cons rfl ?_)) (by repeat (first | exact DropL.refl | apply DropL.skip)))
        · have e : i = pen.length := by omega
          subst e
          repeat (first | ((with_reducible refine Tr.step rfl ?_); (first | ((with_reducible refine Knd.move ?_); (refine Exec.stab rfl (Stab.move rfl) rfl ?_)) | ((with_reducible refine Knd.assign ?_); (refine Exec.stab rfl (Stab.assign rfl) rfl ?_)) | ((with_reducible refine Knd.load ?_); (first | (refine Exec.stab rfl (Stab.load rfl (tysOk.get rfl) rfl (by repeat (first | exact Has.here | apply Has.there)) rfl) rfl ?_) | (refine Exec.stab rfl (Stab.loadW rfl (tysOk.get rfl) rfl (by repeat (first | exact Has.here | apply Has.there)) rfl) rfl ?_))) | ((with_reducible refine Knd.fieldAddr ?_); ((refine Exec.stab rfl (Stab.fieldZ rfl (tysOk.get rfl) rfl rfl (tysOk.get rfl) rfl) rfl ?_))) | ((with_reducible refine Knd.binOp ?_); (first | (refine Exec.stab rfl (Stab.subi rfl rfl (by omega)) rfl ?_) | (refine Exec.stab rfl (Stab.int rfl rfl rfl) rfl ?_))) | ((with_reducible refine Knd.store ?_); (first | (refine Exec.store rfl rfl (tysOk.get rfl) rfl (by first | rfl | assumption) (by repeat (first | exact Upd.here | apply Upd.there)) (by repeat (first | exact SetL.z | apply SetL.s)) ?_) | (refine Exec.storeW rfl rfl (tysOk.get rfl) (by repeat (first | exact Upd.here | apply Upd.there)) rfl rfl (by repeat (first | exact AllOne.nil | refine AllOne.cons (by first | rfl | assumption) ?_)) ?_))))) | (with_reducible refine Tr.next ?_) | (with_reducible refine Tr.seq ?_) | (with_reducible refine Tr.region ?_) | (with_reducible refine Tr.nil ?_) | (with_reducible refine Tr.exit ?_) | (with_reducible refine Tr.ret ?_) | (with_reducible refine Tr.then_exit ?_) | (with_reducible refine Tr.then_ret ?_) | ((with_reducible refine Tr.in_exit ?_ ?_); (exact rfl)) | (refine Tr.cond_t rfl (by first | assumption | omega) ?_) | (refine Tr.cond_f rfl (by first | assumption | omega) ?_))
          refine Tr.publish (r := box g 35 _) (by repeat (first | exact Del.here | apply Del.there)) (fun M3 hm3 hok3 => ?_)
          have hm := hm1.trans hm3
          (refine Tr.done (by first | exact .inl rfl | exact .inr rfl) rfl (by repeat (first | exact RVs.nil | (apply RVs.cons; (first | exact RV.tmp rfl | exact RV.cellW (by rfl) (tysOk.get (by rfl)) (by rfl) (by repeat (first | exact Has.here | apply Has.there)) (by rfl))))) (by first | exact Mem.le.refl _ | assumption) (by exact ⟨[_, _], rfl⟩) ⟨rfl, ?_⟩)
          rw [List.take_length] at hel
          have hpl := perf_length sec pen
          have er : syncF ⟨sec, pen, left, stop⟩ = (⟨perf sec pen, [], if 0 ≤ left then left - pen.length else -1, false⟩, 0) := by
            unfold syncF
            rw [if_pos hk]
            dsimp only
            rw [if_neg hl]
          rw [er]
          have hs := SlOf.ofBoxC (sz := 1) (R := RSec) (c := c') hok3 hpl.symm (by rw [hcs]; omega) hnc hc' (by rw [Nat.mul_one]; exact hone) (by rw [Nat.mul_one]; exact hel.mono RSec.mono hm3)
          refine ⟨_, rfl, some ⟨g, 0, none⟩, c', none, 0, ?_, hs, SlOf.nil _ _ _⟩
          dsimp only
          rw [hpl, q7, if_pos (by omega)]
          rfl
  · ((refine Tr.step rfl ?_)); refine Exec.call0 rfl (running_n M _ _ hD hk) rfl ?_
    rintro _ _ _ ⟨rfl, rfl⟩
    repeat (first | ((with_reducible refine Tr.step rfl ?_); (first | ((with_reducible refine Knd.move ?_); (refine Exec.stab rfl (Stab.move rfl) rfl ?_)) | ((with_reducible refine Knd.assign ?_); (refine Exec.stab rfl (Stab.assign rfl) rfl ?_)) | ((with_reducible refine Knd.binOp ?_); ((refine Exec.stab rfl (Stab.int rfl rfl rfl) rfl ?_))) | ((with_reducible refine Knd.store ?_); ((refine Exec.storeW rfl rfl (tysOk.get rfl) (by repeat (first | exact Upd.here | apply Upd.there)) rfl rfl (by repeat (first | exact AllOne.nil | refine AllOne.cons (by first | rfl | assumption) ?_)) ?_))) | ((with_reducible refine Knd.build ?_); (refine Exec.stab rfl (Stab.build tysOk rfl rfl rfl rfl (by repeat (exact BuildP.nil))) rfl ?_)))) | (with_reducible refine Tr.next ?_) | (with_reducible refine Tr.seq ?_) | (with_reducible refine Tr.region ?_) | (with_reducible refine Tr.nil ?_) | (with_reducible refine Tr.ret ?_) | (with_reducible refine Tr.then_ret ?_) | (refine Tr.cond_t rfl (by first | assumption | omega) ?_))
    (refine Tr.done (by first | exact .inl rfl | exact .inr rfl) rfl (by repeat (first | exact RVs.nil | (apply RVs.cons; (first | exact RV.tmp rfl | exact RV.cellW (by rfl) (tysOk.get (by rfl)) (by rfl) (by repeat (first | exact Has.here | apply Has.there)) (by rfl))))) (by first | exact Mem.le.refl _ | assumption) (by exact ⟨[_, _], rfl⟩) ⟨rfl, ?_⟩)
    unfold syncF
    rw [if_neg hk]
    exact ⟨_, rfl, RDisk.zero M⟩
end Go.Proofs.Ytfmfakgokgcjmaa
