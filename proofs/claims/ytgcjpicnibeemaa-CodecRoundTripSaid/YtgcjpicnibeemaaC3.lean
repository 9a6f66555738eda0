/-
  The codec: the reader; the contracts of take and of the reader's numeral.
  Conditions: none.
-/
import Derived.Test.YtgcjpicnibeemaaC2
namespace Go.Proofs.Ytgcjpicnibeemaa
open Go Bf
attribute [local irreducible] Tr Exec Stab HasTy Go.Addr.add IntKind.wrap
/-- the panic of a reader -/
def failCh : List PanicEntry := [{ v := .iface 69 (.agg #[]), recovered := false }]
def Fails (ch : List PanicEntry) (_ : Mem) (A' : List Res) : Prop := ch = failCh ∧ A' = []
/-- a reader and what remains to be read -/
def Rdr (M : Mem) (p : Nat) (bs : List UInt8) (x : Res) : Prop := ∃ A c, x = box p 57 [.slice A bs.length c] ∧ BSl M (.slice A bs.length c) bs
theorem Rdr.mono {M M' : Mem} {p : Nat} {bs : List UInt8} {x : Res} (h : Rdr M p bs x) (hm : Mem.le M M') : Rdr M' p bs x := let ⟨A, c, e, h⟩ := h; ⟨A, c, e, h.mono hm⟩

set_option maxHeartbeats 1000000 in
theorem take_fn (M : Mem) (p : Nat) (bs : List UInt8) (x : Res) (h : Rdr M p bs x) (n : Nat) (hn : n < 2 ^ 64) :
    FnP Try.prog 54 [.pointer (some ⟨p, 0, none⟩), .int .u64 (n : Int)] M [x]
      (fun r M' A' => M = M' ∧ n ≤ bs.length ∧ (∃ A c, r = .slice A n c ∧ BSl M (.slice A n c) (bs.take n)) ∧ ∃ x', A' = [x'] ∧ Rdr M p (bs.drop n) x')
      (fun ch M' A' => Fails ch M' A' ∧ bs.length < n) := by
  obtain ⟨A, c, rfl, hb⟩ := h
  have hcap := hb.cap
  refine FnP.intro Try.func54 rfl rfl Try.ntmps54 rfl fun E F => ?_
  by_cases hl : bs.length < n
  · repeat (first | ((with_reducible refine Tr.step rfl ?_); (first | ((with_reducible refine Knd.move ?_); (refine Exec.stab rfl (Stab.move rfl) rfl ?_)) | ((with_reducible refine Knd.assign ?_); (refine Exec.stab rfl (Stab.assign rfl) rfl ?_)) | ((with_reducible refine Knd.load ?_); ((refine Exec.stab rfl (Stab.load rfl (tysOk.get rfl) rfl (by repeat (first | exact Has.here | apply Has.there)) rfl) rfl ?_))) | ((with_reducible refine Knd.fieldAddr ?_); ((refine Exec.stab rfl (Stab.fieldZ rfl (tysOk.get rfl) rfl rfl (tysOk.get rfl) rfl) rfl ?_))) | ((with_reducible refine Knd.len ?_); ((refine Exec.stab rfl (Stab.len rfl (tysOk.get rfl) rfl) rfl ?_))) | ((with_reducible refine Knd.nilCheck ?_); (refine Exec.stab rfl (Stab.nilCheck rfl) rfl ?_)) | ((with_reducible refine Knd.makeInterface ?_); (refine Exec.stab rfl (Stab.makeIface rfl (by kernel_rfl)) rfl ?_)) | ((with_reducible refine Knd.panic ?_); (refine Exec.panic rfl ?_)) | ((with_reducible refine Knd.binOp ?_); ((refine Exec.stab rfl (Stab.int rfl rfl rfl) rfl ?_))) | ((with_reducible refine Knd.convert ?_); ((refine Exec.stab rfl (Stab.convu64 rfl (tysOk.get rfl) (tysOk.get rfl) rfl rfl (by omega)) rfl ?_))) | ((with_reducible refine Knd.build ?_); ((refine Exec.stab rfl (Stab.build tysOk rfl rfl rfl rfl (by repeat (exact BuildP.nil))) rfl ?_))))) | (with_reducible refine Tr.next ?_) | (with_reducible refine Tr.seq ?_) | (with_reducible refine Tr.region ?_) | (with_reducible refine Tr.nil ?_) | (with_reducible refine Tr.then_panic ?_) | (refine Tr.cond_t rfl (by first | (with_reducible assumption) | omega) ?_))
    refine Tr.doneP (A' := []) (Mem.le.refl _) (by repeat (first | exact DropL.refl | apply DropL.skip)) ⟨⟨rfl, rfl⟩, hl⟩
  · repeat (first | ((with_reducible refine Tr.step rfl ?_); (first | ((with_reducible refine Knd.move ?_); (refine Exec.stab rfl (Stab.move rfl) rfl ?_)) | ((with_reducible refine Knd.assign ?_); (refine Exec.stab rfl (Stab.assign rfl) rfl ?_)) | ((with_reducible refine Knd.load ?_); ((refine Exec.stab rfl (Stab.load rfl (tysOk.get rfl) rfl (by repeat (first | exact Has.here | apply Has.there)) rfl) rfl ?_))) | ((with_reducible refine Knd.fieldAddr ?_); ((refine Exec.stab rfl (Stab.fieldZ rfl (tysOk.get rfl) rfl rfl (tysOk.get rfl) rfl) rfl ?_))) | ((with_reducible refine Knd.len ?_); ((refine Exec.stab rfl (Stab.len rfl (tysOk.get rfl) rfl) rfl ?_))) | ((with_reducible refine Knd.nilCheck ?_); (refine Exec.stab rfl (Stab.nilCheck rfl) rfl ?_)) | ((with_reducible refine Knd.binOp ?_); ((refine Exec.stab rfl (Stab.int rfl rfl rfl) rfl ?_))) | ((with_reducible refine Knd.convert ?_); ((refine Exec.stab rfl (Stab.convu64 rfl (tysOk.get rfl) (tysOk.get rfl) rfl rfl (by omega)) rfl ?_))) | ((with_reducible refine Knd.slice ?_); ((refine Exec.stab rfl (Stab.slice_hm rfl rfl rfl (tysOk.get rfl) rfl (tysOk.get rfl) (by omega) (by omega) (by omega)) rfl ?_))))) | (with_reducible refine Tr.next ?_) | (with_reducible refine Tr.seq ?_) | (with_reducible refine Tr.region ?_) | (with_reducible refine Tr.nil ?_) | (with_reducible refine Tr.skip ?_) | (refine Tr.cond_f rfl (by first | (with_reducible assumption) | omega) ?_))
    (((apply Tr.draw); (kernel_rfl)); (refine TrA.take 0 (by kernel_rfl) rfl (by kernel_rfl) (by first | exact fun _ _ _ h => h | exact fun _ _ _ h => nomatch h.1) (by first | exact fun _ h => h | (intro r h; cases h; done) | exact (Sub.mem (by repeat (first | exact Sub.refl | apply Sub.cons)))) rfl (by first | exact Stab.move rfl) rfl rfl ?_); (refine TrA.take 1 (by kernel_rfl) rfl (by kernel_rfl) (by first | exact fun _ _ _ h => h | exact fun _ _ _ h => nomatch h.1) (by first | exact fun _ h => h | (intro r h; cases h; done) | exact (Sub.mem (by repeat (first | exact Sub.refl | apply Sub.cons)))) rfl (by first | exact Stab.move rfl) rfl rfl ?_); (refine TrA.take 2 (by kernel_rfl) rfl (by kernel_rfl) (by first | exact fun _ _ _ h => h | exact fun _ _ _ h => nomatch h.1) (by first | exact fun _ h => h | (intro r h; cases h; done) | exact (Sub.mem (by repeat (first | exact Sub.refl | apply Sub.cons)))) rfl (by first | exact Stab.nilCheck rfl) rfl rfl ?_); (refine TrA.take 3 (by kernel_rfl) rfl (by kernel_rfl) (by first | exact fun _ _ _ h => h | exact fun _ _ _ h => nomatch h.1) (by first | exact fun _ h => h | (intro r h; cases h; done) | exact (Sub.mem (by repeat (first | exact Sub.refl | apply Sub.cons)))) rfl (by exact Stab.fieldZ rfl (tysOk.get rfl) rfl rfl (tysOk.get rfl) rfl) rfl rfl ?_); (refine TrA.take 4 (by kernel_rfl) rfl (by kernel_rfl) (by first | exact fun _ _ _ h => h | exact fun _ _ _ h => nomatch h.1) (by first | exact fun _ h => h | (intro r h; cases h; done) | exact (Sub.mem (by repeat (first | exact Sub.refl | apply Sub.cons)))) rfl (by exact Stab.load rfl (tysOk.get rfl) rfl (by repeat (first | exact Has.here | apply Has.there)) rfl) rfl rfl ?_); (refine TrA.take 5 (by kernel_rfl) rfl (by kernel_rfl) (by first | exact fun _ _ _ h => h | exact fun _ _ _ h => nomatch h.1) (by first | exact fun _ h => h | (intro r h; cases h; done) | exact (Sub.mem (by repeat (first | exact Sub.refl | apply Sub.cons)))) rfl (by first | exact Stab.move rfl) rfl rfl ?_); (refine TrA.take 6 (by kernel_rfl) rfl (by kernel_rfl) (by first | exact fun _ _ _ h => h | exact fun _ _ _ h => nomatch h.1) (by first | exact fun _ h => h | (intro r h; cases h; done) | exact (Sub.mem (by repeat (first | exact Sub.refl | apply Sub.cons)))) rfl (by first | exact Stab.move rfl) rfl rfl ?_); (refine TrA.take 7 (by kernel_rfl) rfl (by kernel_rfl) (by first | exact fun _ _ _ h => h | exact fun _ _ _ h => nomatch h.1) (by first | exact fun _ h => h | (intro r h; cases h; done) | exact (Sub.mem (by repeat (first | exact Sub.refl | apply Sub.cons)))) rfl (by first | exact Stab.nilCheck rfl) rfl rfl ?_); (refine TrA.take 8 (by kernel_rfl) rfl (by kernel_rfl) (by first | exact fun _ _ _ h => h | exact fun _ _ _ h => nomatch h.1) (by first | exact fun _ h => h | (intro r h; cases h; done) | exact (Sub.mem (by repeat (first | exact Sub.refl | apply Sub.cons)))) rfl (by exact Stab.fieldZ rfl (tysOk.get rfl) rfl rfl (tysOk.get rfl) rfl) rfl rfl ?_); (refine TrA.take 9 (by kernel_rfl) rfl (by kernel_rfl) (by first | exact fun _ _ _ h => h | exact fun _ _ _ h => nomatch h.1) (by first | exact fun _ h => h | (intro r h; cases h; done) | exact (Sub.mem (by repeat (first | exact Sub.refl | apply Sub.cons)))) rfl (by exact Stab.load rfl (tysOk.get rfl) rfl (by repeat (first | exact Has.here | apply Has.there)) rfl) rfl rfl ?_); (refine TrA.take 10 (by kernel_rfl) rfl (by kernel_rfl) (by first | exact fun _ _ _ h => h | exact fun _ _ _ h => nomatch h.1) (by first | exact fun _ h => h | (intro r h; cases h; done) | exact (Sub.mem (by repeat (first | exact Sub.refl | apply Sub.cons)))) rfl (by first | exact Stab.len rfl (tysOk.get rfl) rfl | exact Stab.lensL rfl (tysOk.get rfl) rfl | exact Stab.lens rfl (tysOk.get rfl) rfl) rfl rfl ?_); (refine TrA.take 11 (by kernel_rfl) rfl (by kernel_rfl) (by first | exact fun _ _ _ h => h | exact fun _ _ _ h => nomatch h.1) (by first | exact fun _ h => h | (intro r h; cases h; done) | exact (Sub.mem (by repeat (first | exact Sub.refl | apply Sub.cons)))) rfl (by first | exact Stab.move rfl) rfl rfl ?_); (refine TrA.take 12 (by kernel_rfl) rfl (by kernel_rfl) (by first | exact fun _ _ _ h => h | exact fun _ _ _ h => nomatch h.1) (by first | exact fun _ h => h | (intro r h; cases h; done) | exact (Sub.mem (by repeat (first | exact Sub.refl | apply Sub.cons)))) rfl (by first | exact Stab.nilCheck rfl) rfl rfl ?_); (refine TrA.take 13 (by kernel_rfl) rfl (by kernel_rfl) (by first | exact fun _ _ _ h => h | exact fun _ _ _ h => nomatch h.1) (by first | exact fun _ h => h | (intro r h; cases h; done) | exact (Sub.mem (by repeat (first | exact Sub.refl | apply Sub.cons)))) rfl (by exact Stab.fieldZ rfl (tysOk.get rfl) rfl rfl (tysOk.get rfl) rfl) rfl rfl ?_); (refine TrA.take 14 (by kernel_rfl) rfl (by kernel_rfl) (by first | exact fun _ _ _ h => h | exact fun _ _ _ h => nomatch h.1) (by first | exact fun _ h => h | (intro r h; cases h; done) | exact (Sub.mem (by repeat (first | exact Sub.refl | apply Sub.cons)))) rfl (by exact Stab.load rfl (tysOk.get rfl) rfl (by repeat (first | exact Has.here | apply Has.there)) rfl) rfl rfl ?_); (refine TrA.take 15 (by kernel_rfl) rfl (by kernel_rfl) (by first | exact fun _ _ _ h => h | exact fun _ _ _ h => nomatch h.1) (by first | exact fun _ h => h | (intro r h; cases h; done) | exact (Sub.mem (by repeat (first | exact Sub.refl | apply Sub.cons)))) rfl (by first | exact Stab.len rfl (tysOk.get rfl) rfl | exact Stab.lensL rfl (tysOk.get rfl) rfl | exact Stab.lens rfl (tysOk.get rfl) rfl) rfl rfl ?_); (refine TrA.take 16 (by kernel_rfl) rfl (by kernel_rfl) (by first | exact fun _ _ _ h => h | exact fun _ _ _ h => nomatch h.1) (by first | exact fun _ h => h | (intro r h; cases h; done) | exact (Sub.mem (by repeat (first | exact Sub.refl | apply Sub.cons)))) rfl (by exact Stab.slice_lhm rfl rfl rfl rfl (tysOk.get rfl) rfl (tysOk.get rfl) rfl (by omega) (by omega) (by omega) (by omega)) rfl rfl ?_); (refine TrA.take 17 (by kernel_rfl) rfl (by kernel_rfl) (by first | exact fun _ _ _ h => h | exact fun _ _ _ h => nomatch h.1) (by first | exact fun _ h => h | (intro r h; cases h; done) | exact (Sub.mem (by repeat (first | exact Sub.refl | apply Sub.cons)))) rfl (by first | exact Stab.nilCheck rfl) rfl rfl ?_); (refine TrA.take 18 (by kernel_rfl) rfl (by kernel_rfl) (by first | exact fun _ _ _ h => h | exact fun _ _ _ h => nomatch h.1) (by first | exact fun _ h => h | (intro r h; cases h; done) | exact (Sub.mem (by repeat (first | exact Sub.refl | apply Sub.cons)))) rfl (by exact Stab.fieldZ rfl (tysOk.get rfl) rfl rfl (tysOk.get rfl) rfl) rfl rfl ?_); (refine TrA.effD 19 rfl (by kernel_rfl) (by kernel_rfl) (by first | exact .inl rfl | exact .inr ⟨_, _, _, rfl, rfl, rfl⟩) ?_); (((refine Knd.store ?_); ((refine Exec.store rfl rfl (tysOk.get rfl) rfl (by first | rfl | assumption) (by repeat (first | exact Upd.here | apply Upd.there)) (by repeat (first | exact SetL.z | apply SetL.s)) ?_)))); (refine ⟨_, fun _ h => h, ?_⟩); (refine TrA.done (by kernel_rfl) ?_))
    repeat (first | ((with_reducible refine Tr.step rfl ?_); (first | ((with_reducible refine Knd.move ?_); (refine Exec.stab rfl (Stab.move rfl) rfl ?_)) | ((with_reducible refine Knd.assign ?_); (refine Exec.stab rfl (Stab.assign rfl) rfl ?_)))) | (with_reducible refine Tr.next ?_) | (with_reducible refine Tr.seq ?_) | (with_reducible refine Tr.region ?_) | (with_reducible refine Tr.nil ?_) | (with_reducible refine Tr.ret ?_))
    refine Tr.ofPost ?_
    refine Tr.doneA (A' := [box p 57 _]) (by first | exact .inl rfl | exact .inr rfl) rfl (by repeat (first | exact RVs.nil | (apply RVs.cons; (exact RV.tmp rfl)))) (Mem.le.refl _) ⟨fun _ h => h, fun h => h⟩ ⟨rfl, by omega, ⟨A, n, rfl, hb.pre (by omega) (Nat.le_refl _) (by omega)⟩, _, rfl, ?_⟩
    have hs := hb.sub (l := n) (k := bs.length) (m := bs.length) (by omega) (Nat.le_refl _) (Nat.le_refl _) (by omega)
    have e : (bs.drop n).take (bs.length - n) = bs.drop n := by rw [List.take_of_length_le (by simp)]
    rw [e] at hs
    have e2 : (bs.drop n).length = bs.length - n := by simp
    refine ⟨if bs.length = n then A else A.map (·.add (n * 1)), bs.length - n, ?_, ?_⟩
    · rw [e2]; rfl
    · rw [e2]; exact hs
/-- a numeral that is read, from its digit i on -/
def rdN : Nat → List UInt8 → Option (Nat × List UInt8)
  | _, [] => none
  | i, c :: r => if i = 9 ∧ 1 < c.toNat then none else if c.toNat < 128 then (if c.toNat = 0 ∧ 0 < i then none else some (c.toNat * 2 ^ (7 * i), r)) else (rdN (i + 1) r).map fun x => (c.toNat % 128 * 2 ^ (7 * i) + x.1, x.2)
theorem rdN_lt {i : Nat} {bs r : List UInt8} {v : Nat} (hi : i ≤ 9) (h : rdN i bs = some (v, r)) : v < 2 ^ 64 ∧ 2 ^ (7 * i) ∣ v := by
  induction bs generalizing i v with
  | nil => cases h
  | cons c bs ih =>
    have hc := c.toNat_lt
    unfold rdN at h
    split at h
    · cases h
    · rename_i h9
      split at h
      · split at h
        · cases h
        · simp only [Option.some.injEq, Prod.mk.injEq] at h
          obtain ⟨rfl, rfl⟩ := h
          refine ⟨?_, Nat.dvd_mul_left ..⟩
          by_cases e : i = 9
          · subst e
            have : c.toNat ≤ 1 := by omega
            have : c.toNat * 2 ^ (7 * 9) ≤ 1 * 2 ^ (7 * 9) := Nat.mul_le_mul_right _ this
            omega
          · have h1 : c.toNat * 2 ^ (7 * i) < 2 ^ 7 * 2 ^ (7 * i) := Nat.mul_lt_mul_of_pos_right (by omega) (Nat.two_pow_pos _)
            rw [← Nat.pow_add] at h1
            have : 2 ^ (7 + 7 * i) ≤ 2 ^ 63 := Nat.pow_le_pow_right (by decide) (by omega)
            omega
      · rename_i h128
        have hne : i ≠ 9 := fun e => h9 ⟨e, by omega⟩
        cases hr : rdN (i + 1) bs with
        | none => rw [hr] at h; cases h
        | some x =>
          rw [hr] at h
          obtain ⟨v', r'⟩ := x
          simp only [Option.map_some, Option.some.injEq, Prod.mk.injEq] at h
          obtain ⟨rfl, rfl⟩ := h
          obtain ⟨h1, k, rfl⟩ := ih (by omega) hr
          have hd : c.toNat % 128 < 128 := Nat.mod_lt _ (by omega)
          have hp : 2 ^ (7 * (i + 1)) = 2 ^ (7 * i) * 128 := by rw [show 7 * (i + 1) = 7 * i + 7 by omega, Nat.pow_add]
          rw [hp] at h1 ⊢
          refine ⟨?_, ⟨c.toNat % 128 + 128 * k, by rw [Nat.mul_add, Nat.mul_comm (c.toNat % 128), Nat.mul_assoc]⟩⟩
          have e64 : (2 : Nat) ^ 64 = 2 ^ (7 * i) * 2 ^ (64 - 7 * i) := by rw [← Nat.pow_add]; congr 1; omega
          have e57 : (2 : Nat) ^ (64 - 7 * i) = 128 * 2 ^ (57 - 7 * i) := by rw [show 64 - 7 * i = 7 + (57 - 7 * i) by omega, Nat.pow_add]
          rw [e64, e57] at h1 ⊢
          rw [Nat.mul_assoc] at h1
          have h2 := Nat.lt_of_mul_lt_mul_left h1
          have h3 := Nat.lt_of_mul_lt_mul_left h2
          have : c.toNat % 128 * 2 ^ (7 * i) + 2 ^ (7 * i) * 128 * k = 2 ^ (7 * i) * (c.toNat % 128 + 128 * k) := by rw [Nat.mul_add, Nat.mul_comm (c.toNat % 128), Nat.mul_assoc]
          rw [this]
          exact Nat.mul_lt_mul_of_pos_left (by omega) (Nat.two_pow_pos _)

set_option maxHeartbeats 2000000 in
theorem rnum_fn (M : Mem) (p : Nat) (bs : List UInt8) (x : Res) (h : Rdr M p bs x) :
    FnP Try.prog 58 [.pointer (some ⟨p, 0, none⟩)] M [x]
      (fun r M' A' => M = M' ∧ ∃ v rest x', rdN 0 bs = some (v, rest) ∧ r = .int .u64 (v : Int) ∧ A' = [x'] ∧ Rdr M p rest x')
      (fun ch M' A' => Fails ch M' A' ∧ rdN 0 bs = none) := by
  refine FnP.intro Try.func58 rfl rfl Try.ntmps58 rfl fun E F => ?_
  repeat (first | ((with_reducible refine Tr.step rfl ?_); (((with_reducible refine Knd.assign ?_); (refine Exec.stab rfl (Stab.assign rfl) rfl ?_)))) | (with_reducible refine Tr.next ?_) | (with_reducible refine Tr.seq ?_) | (with_reducible refine Tr.region ?_) | (with_reducible refine Tr.nil ?_) | (with_reducible refine Tr.block ?_))
  refine Tr.loop (α := Nat × Nat × List UInt8 × Res) (fun y => ⟨38, [(3, .int .i64 y.1), (2, .int .u64 y.2.1), (0, .pointer (some ⟨p, 0, none⟩))], [], M, y.2.2.2 :: ([] ++ F)⟩)
    (fun y => y.1 ≤ 9 ∧ y.2.1 < 2 ^ (7 * y.1) ∧ Rdr M p y.2.2.1 y.2.2.2 ∧ rdN 0 bs = (rdN y.1 y.2.2.1).map fun z => (y.2.1 + z.1, z.2)) (fun y => 9 - y.1) (0, 0, bs, x) ⟨by simp, by simp, h, by cases h : rdN 0 bs <;> simp [h]⟩ (holds_sub (by repeat (first | exact SubFr.nil | refine SubFr.cons rfl ?_)) (by repeat (first | exact DropL.refl | apply DropL.skip))) (fun y hy => ?_)
  obtain ⟨i, u, cs, x'⟩ := y
  obtain ⟨h1, h2, h3, h4⟩ := hy
  simp only at h1 h2 h3 h4
  dsimp only
  repeat (first | ((with_reducible refine Tr.step rfl ?_); (((with_reducible refine Knd.move ?_); (refine Exec.stab rfl (Stab.move rfl) rfl ?_)))) | (with_reducible refine Tr.seq ?_) | (with_reducible refine Tr.region ?_) | (with_reducible refine Tr.block ?_))
  ((refine Tr.step rfl ?_))
  refine Exec.callP rfl (take_fn M p cs x' h3 1 (by omega)) (List.Perm.refl _) rfl (fun v M' A' hm hR => ?_) (fun ch M' A' hm hR => ?_)
  rotate_left
  · obtain ⟨⟨rfl, rfl⟩, hlt⟩ := hR
    have hnil : cs = [] := List.eq_nil_of_length_eq_zero (by omega)
    subst hnil
    repeat (first | (with_reducible refine Tr.then_panic ?_) | (with_reducible refine Tr.in_panic ?_))
    refine Tr.doneP (A' := []) hm (by repeat (first | exact DropL.refl | apply DropL.skip)) ⟨⟨rfl, rfl⟩, by rw [h4]; rfl⟩
  obtain ⟨rfl, hle, ⟨A1, c1, rfl, hb1⟩, x2, rfl, hx2⟩ := hR
  cases cs with
  | nil => simp at hle
  | cons c r =>
    have hb1' : BSl M (.slice A1 1 c1) [c] := by simpa using hb1
    obtain ⟨hA1, hat⟩ := hb1'.byte (j := 0) (c := c) rfl
    have hx2' : Rdr M p r x2 := by simpa using hx2
    have hc8 := c.toNat_lt
    repeat (first | ((with_reducible refine Tr.step rfl ?_); (first | ((with_reducible refine Knd.move ?_); (refine Exec.stab rfl (Stab.move rfl) rfl ?_)) | ((with_reducible refine Knd.assign ?_); (refine Exec.stab rfl (Stab.assign rfl) rfl ?_)) | ((with_reducible refine Knd.load ?_); ((refine Exec.stab rfl (Stab.loadM rfl (tysOk.get rfl) rfl (by assumption)) rfl ?_))) | ((with_reducible refine Knd.binOp ?_); ((refine Exec.stab rfl (Stab.int rfl rfl rfl) rfl ?_))) | ((with_reducible refine Knd.indexAddr ?_); ((refine Exec.stab rfl (Stab.indexAddr rfl rfl (tysOk.get rfl) rfl (tysOk.get rfl) rfl (by omega) (by omega) (by first | rfl | assumption)) rfl ?_))))) | (with_reducible refine Tr.next ?_) | (with_reducible refine Tr.seq ?_) | (with_reducible refine Tr.region ?_) | (with_reducible refine Tr.nil ?_))
    by_cases h9 : i = 9 ∧ 1 < c.toNat
    · obtain ⟨h9a, h9b⟩ := id h9
      repeat (first | ((with_reducible refine Tr.step rfl ?_); (first | ((with_reducible refine Knd.makeInterface ?_); (refine Exec.stab rfl (Stab.makeIface rfl (by kernel_rfl)) rfl ?_)) | ((with_reducible refine Knd.panic ?_); (refine Exec.panic rfl ?_)) | ((with_reducible refine Knd.pick ?_); ((refine Exec.stab rfl (Stab.pick_td rfl (by first | (with_reducible assumption) | omega) rfl) rfl ?_))) | ((with_reducible refine Knd.build ?_); ((refine Exec.stab rfl (Stab.build tysOk rfl rfl rfl rfl (by repeat (exact BuildP.nil))) rfl ?_))))) | (with_reducible refine Tr.next ?_) | (with_reducible refine Tr.region ?_) | (with_reducible refine Tr.nil ?_) | ((refine Tr.guard_y rfl rfl rfl (by first | (with_reducible assumption) | omega) ?_); (first | ((with_reducible refine Knd.move ?_); (refine Exec.stab rfl (Stab.move rfl) rfl ?_)) | ((with_reducible refine Knd.binOp ?_); ((refine Exec.stab rfl (Stab.int rfl rfl rfl) rfl ?_))))) | (with_reducible refine Tr.then_panic ?_) | (with_reducible refine Tr.in_panic ?_) | (refine Tr.cond_t rfl (by first | (with_reducible assumption) | omega) ?_))
      refine Tr.doneP (A' := []) (Mem.le.refl _) (by repeat (first | exact DropL.refl | apply DropL.skip)) ⟨⟨rfl, rfl⟩, by rw [h4]; unfold rdN; rw [if_pos h9]; rfl⟩
    refine Tr.cutL (α := Bool) (fun q => ⟨38, [(16, .bool q), (4, .int .u8 (c.toNat : Int)), (3, .int .i64 i), (2, .int .u64 u), (0, .pointer (some ⟨p, 0, none⟩))], [], M, [x2] ++ ([] ++ F)⟩) (fun q => q = false) ?_ (fun q hq => ?_)
    · by_cases h9a : i = 9
      · repeat (first | ((with_reducible refine Tr.step rfl ?_); (((with_reducible refine Knd.pick ?_); ((refine Exec.stab rfl (Stab.pick_td rfl (by first | (with_reducible assumption) | omega) rfl) rfl ?_))))) | (with_reducible refine Tr.nil ?_) | ((refine Tr.guard_y rfl rfl rfl (by first | (with_reducible assumption) | omega) ?_); (first | ((with_reducible refine Knd.move ?_); (refine Exec.stab rfl (Stab.move rfl) rfl ?_)) | ((with_reducible refine Knd.binOp ?_); ((refine Exec.stab rfl (Stab.int rfl rfl rfl) rfl ?_))))))
        refine Tr.land _ ?_ (holds_sub (by repeat (first | exact SubFr.nil | refine SubFr.cons rfl ?_)) (by repeat (first | exact DropL.refl | apply DropL.skip)))
        simp; omega
      · repeat (first | ((with_reducible refine Tr.step rfl ?_); (((with_reducible refine Knd.pick ?_); ((refine Exec.stab rfl (Stab.pick_fd rfl (by first | (with_reducible assumption) | omega) rfl) rfl ?_))))) | (with_reducible refine Tr.nil ?_) | (refine Tr.guard_n rfl rfl rfl (by first | (with_reducible assumption) | omega) rfl rfl ?_))
        refine Tr.land _ ?_ (holds_sub (by repeat (first | exact SubFr.nil | refine SubFr.cons rfl ?_)) (by repeat (first | exact DropL.refl | apply DropL.skip)))
        rfl
    subst hq
    have hw : c.toNat % 128 * 2 ^ (7 * i) < 2 ^ 64 := by
      by_cases h9a : i = 9
      · subst h9a
        have h1 : c.toNat ≤ 1 := by omega
        have : c.toNat % 128 ≤ 1 := by omega
        have : c.toNat % 128 * 2 ^ (7 * 9) ≤ 1 * 2 ^ (7 * 9) := Nat.mul_le_mul_right _ this
        omega
      · have h1 : c.toNat % 128 * 2 ^ (7 * i) < 2 ^ 7 * 2 ^ (7 * i) := Nat.mul_lt_mul_of_pos_right (by omega) (Nat.two_pow_pos _)
        rw [← Nat.pow_add] at h1
        have : 2 ^ (7 + 7 * i) ≤ 2 ^ 63 := Nat.pow_le_pow_right (by decide) (by omega)
        omega
    have hsh : IntKind.u64.wrap ((c.toNat : Int) % 128 * 2 ^ min (7 * (i : Int)).toNat IntKind.u64.bits) = ((c.toNat % 128 * 2 ^ (7 * i) : Nat) : Int) := by
      have e1 : (7 * (i : Int)).toNat = 7 * i := by omega
      have e2 : min (7 * i) IntKind.u64.bits = 7 * i := by
        have : IntKind.u64.bits = 64 := rfl
        omega
      rw [e1, e2]
      have e3 : (c.toNat : Int) % 128 * 2 ^ (7 * i) = ((c.toNat % 128 * 2 ^ (7 * i) : Nat) : Int) := by
        rw [Int.natCast_mul, Int.natCast_pow, Int.natCast_emod]; rfl
      rw [e3]
      exact IntWalk.u64_in _ ⟨by omega, by omega⟩
    have hsum : u + c.toNat % 128 * 2 ^ (7 * i) < 2 ^ 64 := by
      obtain ⟨m, hm⟩ : 2 ^ (7 * i) ∣ 2 ^ 64 := Nat.pow_dvd_pow _ (by omega)
      rw [hm] at hw ⊢
      rw [Nat.mul_comm] at hw
      have h5 := Nat.lt_of_mul_lt_mul_left hw
      have : u + c.toNat % 128 * 2 ^ (7 * i) < 2 ^ (7 * i) * (c.toNat % 128 + 1) := by rw [Nat.mul_add, Nat.mul_one, Nat.mul_comm (c.toNat % 128)]; omega
      exact Nat.lt_of_lt_of_le this (Nat.mul_le_mul_left _ (by omega))
    have hor := bits_or_add (a := u) (b := c.toNat % 128) (j := 7 * i) (by omega) h2 hsum
    repeat (first | ((with_reducible refine Tr.step rfl ?_); (first | ((with_reducible refine Knd.move ?_); (refine Exec.stab rfl (Stab.move rfl) rfl ?_)) | ((with_reducible refine Knd.binOp ?_); (first | (refine Exec.stab rfl (Stab.and8 7 rfl rfl rfl rfl (by omega) (p := 128) rfl) rfl ?_) | (refine Exec.stab rfl (Stab.muli rfl rfl (by omega)) rfl ?_))) | ((with_reducible refine Knd.convert ?_); ((refine Exec.stab rfl (Stab.convu64 rfl (tysOk.get rfl) (tysOk.get rfl) rfl rfl (by omega)) rfl ?_))))) | (with_reducible refine Tr.next ?_) | (with_reducible refine Tr.seq ?_) | (with_reducible refine Tr.region ?_) | (with_reducible refine Tr.skip ?_) | (refine Tr.cond_bf rfl (by first | (with_reducible rfl) | (with_reducible assumption) | (with_reducible exact Bool.not_true) | (with_reducible exact Bool.not_false)) ?_))
    refine Tr.step rfl ?_
    refine Exec.stab rfl (Stab.shl rfl rfl (by omega)) rfl ?_
    rw [hsh]
    by_cases h128 : c.toNat < 128
    · by_cases hz : c.toNat = 0 ∧ 0 < i
      · obtain ⟨hza, hzb⟩ := id hz
        repeat (first | ((with_reducible refine Tr.step rfl ?_); (first | ((with_reducible refine Knd.move ?_); (refine Exec.stab rfl (Stab.move rfl) rfl ?_)) | ((with_reducible refine Knd.assign ?_); (refine Exec.stab rfl (Stab.assign rfl) rfl ?_)) | ((with_reducible refine Knd.makeInterface ?_); (refine Exec.stab rfl (Stab.makeIface rfl (by kernel_rfl)) rfl ?_)) | ((with_reducible refine Knd.panic ?_); (refine Exec.panic rfl ?_)) | ((with_reducible refine Knd.binOp ?_); ((refine Exec.stab rfl (Stab.int rfl rfl rfl) rfl ?_))) | ((with_reducible refine Knd.pick ?_); ((refine Exec.stab rfl (Stab.pick_td rfl (by first | (with_reducible assumption) | omega) rfl) rfl ?_))) | ((with_reducible refine Knd.build ?_); ((refine Exec.stab rfl (Stab.build tysOk rfl rfl rfl rfl (by repeat (exact BuildP.nil))) rfl ?_))))) | (with_reducible refine Tr.next ?_) | (with_reducible refine Tr.seq ?_) | (with_reducible refine Tr.region ?_) | (with_reducible refine Tr.nil ?_) | ((refine Tr.guard_y rfl rfl rfl (by first | (with_reducible assumption) | omega) ?_); (first | ((with_reducible refine Knd.move ?_); (refine Exec.stab rfl (Stab.move rfl) rfl ?_)) | ((with_reducible refine Knd.binOp ?_); ((refine Exec.stab rfl (Stab.int rfl rfl rfl) rfl ?_))))) | (with_reducible refine Tr.then_panic ?_) | (with_reducible refine Tr.in_panic ?_) | (refine Tr.cond_t rfl (by first | (with_reducible assumption) | omega) ?_))
        refine Tr.doneP (A' := []) (Mem.le.refl _) (by repeat (first | exact DropL.refl | apply DropL.skip)) ⟨⟨rfl, rfl⟩, by rw [h4]; unfold rdN; rw [if_neg h9, if_pos h128, if_pos hz]; rfl⟩
      · repeat (first | ((with_reducible refine Tr.step rfl ?_); (first | ((with_reducible refine Knd.move ?_); (refine Exec.stab rfl (Stab.move rfl) rfl ?_)) | ((with_reducible refine Knd.assign ?_); (refine Exec.stab rfl (Stab.assign rfl) rfl ?_)) | ((with_reducible refine Knd.binOp ?_); ((refine Exec.stab rfl (Stab.int rfl rfl rfl) rfl ?_))))) | (with_reducible refine Tr.next ?_) | (with_reducible refine Tr.seq ?_) | (with_reducible refine Tr.region ?_) | (with_reducible refine Tr.nil ?_) | (refine Tr.cond_t rfl (by first | (with_reducible assumption) | omega) ?_))
        refine Tr.cutL (α := Bool) (fun q => ⟨38, [(34, .bool q), (2, .int .u64 ((u + c.toNat % 128 * 2 ^ (7 * i) : Nat) : Int)), (0, .pointer (some ⟨p, 0, none⟩))], [], M, [x2] ++ ([] ++ F)⟩) (fun q => q = false) ?_ (fun q hq => ?_)
        · rw [hor]
          by_cases hza : c.toNat = 0
          · repeat (first | ((with_reducible refine Tr.step rfl ?_); (((with_reducible refine Knd.pick ?_); ((refine Exec.stab rfl (Stab.pick_td rfl (by first | (with_reducible assumption) | omega) rfl) rfl ?_))))) | (with_reducible refine Tr.nil ?_) | ((refine Tr.guard_y rfl rfl rfl (by first | (with_reducible assumption) | omega) ?_); (first | ((with_reducible refine Knd.move ?_); (refine Exec.stab rfl (Stab.move rfl) rfl ?_)) | ((with_reducible refine Knd.binOp ?_); ((refine Exec.stab rfl (Stab.int rfl rfl rfl) rfl ?_))))))
            refine Tr.land _ ?_ (holds_sub (by repeat (first | exact SubFr.nil | refine SubFr.cons rfl ?_)) (by repeat (first | exact DropL.refl | apply DropL.skip)))
            simp; omega
          · repeat (first | ((with_reducible refine Tr.step rfl ?_); (((with_reducible refine Knd.pick ?_); ((refine Exec.stab rfl (Stab.pick_fd rfl (by first | (with_reducible assumption) | omega) rfl) rfl ?_))))) | (with_reducible refine Tr.nil ?_) | (refine Tr.guard_n rfl rfl rfl (by first | (with_reducible assumption) | omega) rfl rfl ?_))
            refine Tr.land _ ?_ (holds_sub (by repeat (first | exact SubFr.nil | refine SubFr.cons rfl ?_)) (by repeat (first | exact DropL.refl | apply DropL.skip)))
            rfl
        subst hq
        repeat (first | ((with_reducible refine Tr.step rfl ?_); (first | ((with_reducible refine Knd.move ?_); (refine Exec.stab rfl (Stab.move rfl) rfl ?_)) | ((with_reducible refine Knd.assign ?_); (refine Exec.stab rfl (Stab.assign rfl) rfl ?_)))) | (with_reducible refine Tr.next ?_) | (with_reducible refine Tr.seq ?_) | (with_reducible refine Tr.region ?_) | (with_reducible refine Tr.nil ?_) | (with_reducible refine Tr.skip ?_) | (with_reducible refine Tr.ret ?_) | (with_reducible refine Tr.then_ret ?_) | (with_reducible refine Tr.in_ret ?_) | (refine Tr.cond_bf rfl (by first | (with_reducible rfl) | (with_reducible assumption) | (with_reducible exact Bool.not_true) | (with_reducible exact Bool.not_false)) ?_))
        refine Tr.ofPost ?_
        refine Tr.doneA (A' := [x2]) (by first | exact .inl rfl | exact .inr rfl) rfl (by repeat (first | exact RVs.nil | (apply RVs.cons; (exact RV.tmp rfl)))) (Mem.le.refl _) ⟨fun _ h => h, fun h => h⟩ ⟨rfl, u + c.toNat % 128 * 2 ^ (7 * i), r, x2, ?_, rfl, rfl, hx2'⟩
        rw [h4]
        unfold rdN
        rw [if_neg h9, if_pos h128, if_neg hz, Nat.mod_eq_of_lt h128]
        rfl
    · have hne : i ≠ 9 := fun e => h9 ⟨e, by omega⟩
      repeat (first | ((with_reducible refine Tr.step rfl ?_); (first | ((with_reducible refine Knd.move ?_); (refine Exec.stab rfl (Stab.move rfl) rfl ?_)) | ((with_reducible refine Knd.assign ?_); (refine Exec.stab rfl (Stab.assign rfl) rfl ?_)) | ((with_reducible refine Knd.binOp ?_); (first | (refine Exec.stab rfl (Stab.addi rfl rfl (by omega)) rfl ?_) | (refine Exec.stab rfl (Stab.int rfl rfl rfl) rfl ?_))))) | (with_reducible refine Tr.next ?_) | (with_reducible refine Tr.seq ?_) | (with_reducible refine Tr.region ?_) | (with_reducible refine Tr.nil ?_) | (with_reducible refine Tr.skip ?_) | (with_reducible refine Tr.in_normal ?_) | (refine Tr.cond_f rfl (by first | (with_reducible assumption) | omega) ?_))
      rw [hor]
      refine Tr.again (i + 1, u + c.toNat % 128 * 2 ^ (7 * i), r, x2) ⟨by simp only; omega, ?_, hx2', ?_⟩ (by simp only; omega) (holds_sub (by repeat (first | exact SubFr.nil | refine SubFr.cons rfl ?_)) (by repeat (first | exact DropL.refl | apply DropL.skip)))
      · simp only
        have hd : c.toNat % 128 < 128 := Nat.mod_lt _ (by omega)
        have : u + c.toNat % 128 * 2 ^ (7 * i) < 2 ^ (7 * i) * (c.toNat % 128 + 1) := by rw [Nat.mul_add, Nat.mul_one, Nat.mul_comm (c.toNat % 128)]; omega
        refine Nat.lt_of_lt_of_le this ?_
        rw [show 7 * (i + 1) = 7 * i + 7 by omega, Nat.pow_add]
        exact Nat.mul_le_mul_left _ (by omega)
      · simp only
        rw [h4]
        conv => lhs; unfold rdN
        rw [if_neg h9, if_neg h128]
        cases rdN (i + 1) r <;> simp [Nat.add_assoc]
end Go.Proofs.Ytgcjpicnibeemaa
