/-
  The codec: what is read; the contracts of readInt, readText, readList and value.
  Conditions: none.
-/
import Derived.Test.YtgcjpicnibeemaaC3
import Derived.Test.YtgcjpicnibeemaaBfStr
namespace Go.Proofs.Ytgcjpicnibeemaa
open Go Bf
attribute [local irreducible] Tr Exec Stab HasTy Go.Addr.add IntKind.wrap
def unzz (u : Nat) : Int := if u % 2 = 0 then (u / 2 : Nat) else - ((u / 2 : Nat) : Int) - 1
/-- as many values as are said -/
def rdL (f : List UInt8 → Option (Val × List UInt8)) : Nat → List UInt8 → Option (List Val × List UInt8)
  | 0, bs => some ([], bs)
  | n + 1, bs => match f bs with
    | none => none
    | some (v, r) => match rdL f n r with
      | none => none
      | some (l, r') => some (v :: l, r')
/-- one value; 'sub': how the elements of a list are read, if there may be lists -/
def rdStep (sub : Option (List UInt8 → Option (Val × List UInt8))) : List UInt8 → Option (Val × List UInt8)
  | [] => none
  | k :: bs =>
    if k.toNat = 1 then (rdN 0 bs).map fun x => (.mk 1 (unzz x.1) [] [], x.2)
    else if k.toNat = 2 then (match rdN 0 bs with
      | none => none
      | some (n, r) => if n ≤ r.length then some (.mk 2 0 (r.take n) [], r.drop n) else none)
    else if k.toNat = 3 then (match sub with
      | none => none
      | some f => match rdN 0 bs with
        | none => none
        | some (n, r) => (rdL f n r).map fun x => (.mk 3 0 [] x.1, x.2))
    else none
theorem rdStep_cons (sub : Option (List UInt8 → Option (Val × List UInt8))) (k : UInt8) (bs : List UInt8) : rdStep sub (k :: bs) =
    if k.toNat = 1 then (rdN 0 bs).map fun x => (.mk 1 (unzz x.1) [] [], x.2)
    else if k.toNat = 2 then (match rdN 0 bs with
      | none => none
      | some (n, r) => if n ≤ r.length then some (.mk 2 0 (r.take n) [], r.drop n) else none)
    else if k.toNat = 3 then (match sub with
      | none => none
      | some f => match rdN 0 bs with
        | none => none
        | some (n, r) => (rdL f n r).map fun x => (.mk 3 0 [] x.1, x.2))
    else none := rfl
def rdV : Nat → List UInt8 → Option (Val × List UInt8)
  | 0 => rdStep none
  | room + 1 => rdStep (some (rdV room))
theorem rdN_len {i : Nat} {bs r : List UInt8} {v : Nat} (h : rdN i bs = some (v, r)) : r.length < bs.length := by
  induction bs generalizing i v with
  | nil => cases h
  | cons c bs ih =>
    unfold rdN at h
    split at h
    · cases h
    · split at h
      · split at h
        · cases h
        · simp only [Option.some.injEq, Prod.mk.injEq] at h
          obtain ⟨-, rfl⟩ := h
          simp
      · cases hr : rdN (i + 1) bs with
        | none => rw [hr] at h; cases h
        | some x =>
          rw [hr] at h
          obtain ⟨v', r'⟩ := x
          simp only [Option.map_some, Option.some.injEq, Prod.mk.injEq] at h
          obtain ⟨-, rfl⟩ := h
          have := ih hr
          simp; omega
theorem rdL_len {f : List UInt8 → Option (Val × List UInt8)} (hf : ∀ bs v r, f bs = some (v, r) → r.length < bs.length) : ∀ (n : Nat) (bs r : List UInt8) (l : List Val), rdL f n bs = some (l, r) → r.length ≤ bs.length
  | 0, bs, r, l, h => by
    simp only [rdL, Option.some.injEq, Prod.mk.injEq] at h
    obtain ⟨-, rfl⟩ := h
    exact Nat.le_refl _
  | n + 1, bs, r, l, h => by
    unfold rdL at h
    cases h1 : f bs with
    | none => rw [h1] at h; cases h
    | some x =>
      rw [h1] at h
      obtain ⟨v, r1⟩ := x
      dsimp only at h
      cases h2 : rdL f n r1 with
      | none => rw [h2] at h; cases h
      | some y =>
        rw [h2] at h
        obtain ⟨l1, r2⟩ := y
        simp only [Option.some.injEq, Prod.mk.injEq] at h
        obtain ⟨-, rfl⟩ := h
        have := hf _ _ _ h1
        have := rdL_len hf n _ _ _ h2
        omega
theorem rdStep_len {sub : Option (List UInt8 → Option (Val × List UInt8))} (hf : ∀ f, sub = some f → ∀ bs v r, f bs = some (v, r) → r.length < bs.length) {bs r : List UInt8} {v : Val} (h : rdStep sub bs = some (v, r)) : r.length < bs.length := by
  cases bs with
  | nil => cases h
  | cons k bs =>
    rw [rdStep_cons] at h
    split at h
    · cases hn : rdN 0 bs with
      | none => rw [hn] at h; cases h
      | some x =>
        rw [hn] at h
        obtain ⟨u, r1⟩ := x
        simp only [Option.map_some, Option.some.injEq, Prod.mk.injEq] at h
        obtain ⟨-, rfl⟩ := h
        have := rdN_len hn
        simp; omega
    · split at h
      · cases hn : rdN 0 bs with
        | none => rw [hn] at h; cases h
        | some x =>
          rw [hn] at h
          obtain ⟨n, r1⟩ := x
          dsimp only at h
          split at h
          · simp only [Option.some.injEq, Prod.mk.injEq] at h
            obtain ⟨-, rfl⟩ := h
            have := rdN_len hn
            simp; omega
          · cases h
      · split at h
        · cases sub with
          | none => cases h
          | some f =>
            cases hn : rdN 0 bs with
            | none => rw [hn] at h; cases h
            | some x =>
              rw [hn] at h
              obtain ⟨n, r1⟩ := x
              dsimp only at h
              cases hl : rdL f n r1 with
              | none => rw [hl] at h; cases h
              | some y =>
                rw [hl] at h
                obtain ⟨l1, r2⟩ := y
                simp only [Option.map_some, Option.some.injEq, Prod.mk.injEq] at h
                obtain ⟨-, rfl⟩ := h
                have := rdN_len hn
                have := rdL_len (hf f rfl) _ _ _ _ hl
                simp; omega
        · cases h
theorem rdV_len : ∀ (room : Nat) (bs r : List UInt8) (v : Val), rdV room bs = some (v, r) → r.length < bs.length
  | 0, _, _, _, h => rdStep_len (fun _ h => by cases h) h
  | room + 1, _, _, _, h => rdStep_len (fun f hf => by cases hf; exact fun bs v r => rdV_len room bs r v) h
theorem unzz_range {u : Nat} (h : u < 2 ^ 64) : -9223372036854775808 ≤ unzz u ∧ unzz u ≤ 9223372036854775807 := by
  unfold unzz; split <;> omega
theorem xor_unzz {u : Nat} (h : u < 2 ^ 64) : Go.bits .xor .i64 ((u : Int) / 2) (-((u : Int) % 2)) = unzz u := by
  unfold unzz
  by_cases h2 : u % 2 = 0
  · rw [if_pos h2, show -((u : Int) % 2) = 0 by omega, bits_xor0 (.inr rfl) (by omega) (fun h => by cases h)]
    omega
  · rw [if_neg h2, show -((u : Int) % 2) = -1 by omega, bits_xor_m1 (by omega)]
    omega

set_option maxHeartbeats 1000000 in
theorem readInt_fn (M : Mem) (p : Nat) (bs : List UInt8) (x : Res) (room : Int) (h : Rdr M p bs x) :
    FnP Try.prog 42 [.pointer (some ⟨p, 0, none⟩), .int .i64 room] M [x]
      (fun r M' A' => M = M' ∧ ∃ u rest x', rdN 0 bs = some (u, rest) ∧ RV M r (.mk 1 (unzz u) [] []) ∧ A' = [x'] ∧ Rdr M p rest x')
      (fun ch M' A' => Fails ch M' A' ∧ rdN 0 bs = none) := by
  refine FnP.intro Try.func42 rfl rfl Try.ntmps42 rfl fun E F => ?_
  repeat (first | ((with_reducible refine Tr.step rfl ?_); (first | ((with_reducible refine Knd.move ?_); (refine Exec.stab rfl (Stab.move rfl) rfl ?_)) | ((with_reducible refine Knd.alloc ?_); (first | (refine Exec.alloc (tysOk.get rfl) rfl rfl (fun b => ?_)) | (refine Exec.alloc1 (tysOk.get rfl) rfl rfl rfl (fun b => ?_)))))) | (with_reducible refine Tr.next ?_) | (with_reducible refine Tr.seq ?_) | (with_reducible refine Tr.region ?_) | (with_reducible refine Tr.nil ?_))
  ((refine Tr.step rfl ?_))
  refine Exec.callP rfl (rnum_fn M p bs x h) (List.Perm.swap _ _ _) rfl (fun v M' A' hm hR => ?_) (fun ch M' A' hm hR => ?_)
  rotate_left
  · obtain ⟨⟨rfl, rfl⟩, hn⟩ := hR
    repeat ((with_reducible refine Tr.then_panic ?_))
    refine Tr.doneP (A' := []) hm (by repeat (first | exact DropL.refl | apply DropL.skip)) ⟨⟨rfl, rfl⟩, hn⟩
  obtain ⟨rfl, u, rest, x2, hn, rfl, rfl, hx2⟩ := hR
  have hu := (rdN_lt (by omega) hn).1
  repeat (first | ((with_reducible refine Tr.step rfl ?_); (first | ((with_reducible refine Knd.move ?_); (refine Exec.stab rfl (Stab.move rfl) rfl ?_)) | ((with_reducible refine Knd.assign ?_); (refine Exec.stab rfl (Stab.assign rfl) rfl ?_)) | ((with_reducible refine Knd.binOp ?_); (first | (refine Exec.stab rfl (Stab.and64 1 rfl rfl rfl rfl (by omega) (p := 2) rfl) rfl ?_) | (refine Exec.stab rfl (Stab.shrc 1 (p := 2) rfl rfl rfl rfl) rfl ?_) | (refine Exec.stab rfl (Stab.int rfl rfl rfl) rfl ?_))) | ((with_reducible refine Knd.unOp ?_); (first | (refine Exec.stab rfl (Stab.notd rfl) rfl ?_) | (refine Exec.stab rfl (Stab.not rfl) rfl ?_) | (refine Exec.stab rfl (Stab.neg rfl (by omega)) rfl ?_))) | ((with_reducible refine Knd.store ?_); ((refine Exec.storeW rfl rfl (tysOk.get rfl) (by repeat (first | exact Upd.here | apply Upd.there)) rfl rfl (by repeat (first | exact AllOne.nil | refine AllOne.cons (by first | rfl | assumption) ?_)) ?_))) | ((with_reducible refine Knd.convert ?_); ((refine Exec.stab rfl (Stab.convi rfl (tysOk.get rfl) (tysOk.get rfl) rfl rfl (by omega)) rfl ?_))) | ((with_reducible refine Knd.build ?_); ((refine Exec.stab rfl (Stab.build tysOk rfl rfl rfl rfl (by repeat (first | exact BuildP.nil | ((apply BuildP.one); (rfl); (rfl); (first | rfl | assumption); (repeat (first | exact SetL.z | apply SetL.s)))))) rfl ?_))))) | (with_reducible refine Tr.next ?_) | (with_reducible refine Tr.seq ?_) | (with_reducible refine Tr.region ?_) | (with_reducible refine Tr.nil ?_) | (with_reducible refine Tr.ret ?_))
  rw [xor_unzz hu]
  repeat (fail)
  refine Tr.ofPost ?_
  refine Tr.doneA (A' := [x2]) (by first | exact .inl rfl | exact .inr rfl) rfl (by repeat (first | exact RVs.nil | (apply RVs.cons; (exact RV.cellW (by rfl) (tysOk.get (by rfl)) (by rfl) (by repeat (first | exact Has.here | apply Has.there)) (by rfl))))) (Mem.le.refl _) ⟨fun r hr => by simp at hr ⊢; rcases hr with rfl | hr <;> simp_all, fun h => by simp only [List.flatMap_append, List.flatMap_cons, List.flatMap_nil, List.append_nil, List.nil_append, List.nodup_append, List.cons_append] at h ⊢; exact ⟨h.1, h.2.1.2.1, fun a ha b hb => h.2.2 a ha b (by simp [hb])⟩⟩ ⟨rfl, u, rest, x2, hn, ⟨_, rfl, RVal.close (A := none) (c := 0) (l := []) (s := []) (by omega) (unzz_range hu) (by simp) (SlOf.nil _ _ _)⟩, rfl, hx2⟩
set_option maxHeartbeats 1000000 in
theorem readText_fn (M : Mem) (p : Nat) (bs : List UInt8) (x : Res) (room : Int) (h : Rdr M p bs x) :
    FnP Try.prog 46 [.pointer (some ⟨p, 0, none⟩), .int .i64 room] M [x]
      (fun r M' A' => M = M' ∧ ∃ n rest x', rdN 0 bs = some (n, rest) ∧ n ≤ rest.length ∧ RV M r (.mk 2 0 (rest.take n) []) ∧ A' = [x'] ∧ Rdr M p (rest.drop n) x')
      (fun ch M' A' => Fails ch M' A' ∧ ∀ n rest, rdN 0 bs = some (n, rest) → rest.length < n) := by
  refine FnP.intro Try.func46 rfl rfl Try.ntmps46 rfl fun E F => ?_
  repeat (first | ((with_reducible refine Tr.step rfl ?_); (first | ((with_reducible refine Knd.move ?_); (refine Exec.stab rfl (Stab.move rfl) rfl ?_)) | ((with_reducible refine Knd.alloc ?_); (first | (refine Exec.alloc (tysOk.get rfl) rfl rfl (fun b => ?_)) | (refine Exec.alloc1 (tysOk.get rfl) rfl rfl rfl (fun b => ?_)))))) | (with_reducible refine Tr.next ?_) | (with_reducible refine Tr.seq ?_) | (with_reducible refine Tr.region ?_) | (with_reducible refine Tr.nil ?_))
  ((refine Tr.step rfl ?_))
  refine Exec.callP rfl (rnum_fn M p bs x h) (List.Perm.swap _ _ _) rfl (fun v M' A' hm hR => ?_) (fun ch M' A' hm hR => ?_)
  rotate_left
  · obtain ⟨⟨rfl, rfl⟩, hn⟩ := hR
    repeat ((with_reducible refine Tr.then_panic ?_))
    refine Tr.doneP (A' := []) hm (by repeat (first | exact DropL.refl | apply DropL.skip)) ⟨⟨rfl, rfl⟩, fun n rest h => by rw [hn] at h; cases h⟩
  obtain ⟨rfl, u, rest, x2, hn, rfl, rfl, hx2⟩ := hR
  have hu := (rdN_lt (by omega) hn).1
  ((refine Tr.step rfl ?_))
  refine Exec.callP rfl (take_fn M p rest x2 hx2 u hu) (List.Perm.refl _) rfl (fun v M' A' hm hR => ?_) (fun ch M' A' hm hR => ?_)
  rotate_left
  · obtain ⟨⟨rfl, rfl⟩, hlt⟩ := hR
    repeat ((with_reducible refine Tr.then_panic ?_))
    refine Tr.doneP (A' := []) hm (by repeat (first | exact DropL.refl | apply DropL.skip)) ⟨⟨rfl, rfl⟩, fun n rest' h => by rw [hn] at h; cases h; exact hlt⟩
  obtain ⟨rfl, hle, ⟨A1, c1, rfl, hb1⟩, x3, rfl, hx3⟩ := hR
  have hsl : (rest.take u).length ≤ 9223372036854775807 := by
    have := hb1.cap
    omega
  repeat (first | ((with_reducible refine Tr.step rfl ?_); (first | ((with_reducible refine Knd.store ?_); ((refine Exec.storeW rfl rfl (tysOk.get rfl) (by repeat (first | exact Upd.here | apply Upd.there)) rfl rfl (by repeat (first | exact AllOne.nil | refine AllOne.cons (by first | rfl | assumption) ?_)) ?_))) | ((with_reducible refine Knd.convert ?_); ((refine Exec.stab rfl (Stab.bstrB rfl (tysOk.get rfl) (tysOk.get rfl) rfl rfl (tysOk.get rfl) rfl (by assumption)) rfl ?_))) | ((with_reducible refine Knd.build ?_); ((refine Exec.stab rfl (Stab.build tysOk rfl rfl rfl rfl (by repeat (first | exact BuildP.nil | ((apply BuildP.one); (rfl); (rfl); (first | rfl | assumption); (repeat (first | exact SetL.z | apply SetL.s)))))) rfl ?_))))) | (with_reducible refine Tr.next ?_) | (with_reducible refine Tr.nil ?_) | (with_reducible refine Tr.ret ?_))
  refine Tr.ofPost ?_
  refine Tr.doneA (A' := [x3]) (by first | exact .inl rfl | exact .inr rfl) rfl (by repeat (first | exact RVs.nil | (apply RVs.cons; (exact RV.cellW (by rfl) (tysOk.get (by rfl)) (by rfl) (by repeat (first | exact Has.here | apply Has.there)) (by rfl))))) (Mem.le.refl _) ⟨fun r hr => by simp at hr ⊢; rcases hr with rfl | hr <;> simp_all, fun h => by simp only [List.flatMap_append, List.flatMap_cons, List.flatMap_nil, List.append_nil, List.nil_append, List.nodup_append, List.cons_append] at h ⊢; exact ⟨h.1, h.2.1.2.1, fun a ha b hb => h.2.2 a ha b (by simp [hb])⟩⟩ ⟨rfl, u, rest, x3, hn, hle, ⟨_, rfl, RVal.close (A := none) (c := 0) (l := []) (by omega) (by omega) hsl (SlOf.nil _ _ _)⟩, rfl, hx3⟩

/-- what 'value' does, for lists nested so deep at most -/
def ValueOk (room : Nat) : Prop := ∀ (M : Mem) (p : Nat) (bs : List UInt8) (x : Res), Rdr M p bs x → bs.length ≤ 1000000000 →
    FnP Try.prog 33 [.pointer (some ⟨p, 0, none⟩), .int .i64 (room : Int)] M [x]
      (fun r M' A' => ∃ v rest x', rdV room bs = some (v, rest) ∧ RV M' r v ∧ A' = [x'] ∧ Rdr M' p rest x')
      (fun ch M' A' => Fails ch M' A' ∧ rdV room bs = none)
theorem rdL_snoc {f : List UInt8 → Option (Val × List UInt8)} {bs rest r : List UInt8} {l : List Val} {v : Val} {n i : Nat} (hi : i < n) (h : rdL f n bs = (rdL f (n - i) rest).map fun z => (l ++ z.1, z.2)) (hv : f rest = some (v, r)) :
    rdL f n bs = (rdL f (n - (i + 1)) r).map fun z => ((l ++ [v]) ++ z.1, z.2) := by
  rw [h, show n - i = (n - (i + 1)) + 1 by omega]
  conv => lhs; unfold rdL
  rw [hv]
  dsimp only
  cases rdL f (n - (i + 1)) r <;> simp
theorem rdL_fail {f : List UInt8 → Option (Val × List UInt8)} {bs rest : List UInt8} {l : List Val} {n i : Nat} (hi : i < n) (h : rdL f n bs = (rdL f (n - i) rest).map fun z => (l ++ z.1, z.2)) (hv : f rest = none) : rdL f n bs = none := by
  rw [h, show n - i = (n - (i + 1)) + 1 by omega]
  conv => lhs; unfold rdL
  rw [hv]
  rfl
set_option maxHeartbeats 2000000 in
theorem readList_fn (room : Nat) (hroom : room ≤ 16) (ih : ∀ k, k < room → ValueOk k) (M : Mem) (p : Nat) (bs : List UInt8) (x : Res) (h : Rdr M p bs x) (hlen : bs.length ≤ 1000000000) :
    FnP Try.prog 50 [.pointer (some ⟨p, 0, none⟩), .int .i64 (room : Int)] M [x]
      (fun r M' A' => ∃ k n r1 l rest x', room = k + 1 ∧ rdN 0 bs = some (n, r1) ∧ rdL (rdV k) n r1 = some (l, rest) ∧ RV M' r (.mk 3 0 [] l) ∧ A' = [x'] ∧ Rdr M' p rest x')
      (fun ch M' A' => Fails ch M' A' ∧ ∀ k n r1, room = k + 1 → rdN 0 bs = some (n, r1) → rdL (rdV k) n r1 = none) := by
  refine FnP.intro Try.func50 rfl rfl Try.ntmps50 rfl fun E F => ?_
  cases room with
  | zero =>
    repeat (first | ((with_reducible refine Tr.step rfl ?_); (first | ((with_reducible refine Knd.move ?_); (refine Exec.stab rfl (Stab.move rfl) rfl ?_)) | ((with_reducible refine Knd.makeInterface ?_); (refine Exec.stab rfl (Stab.makeIface rfl (by kernel_rfl)) rfl ?_)) | ((with_reducible refine Knd.panic ?_); (refine Exec.panic rfl ?_)) | ((with_reducible refine Knd.binOp ?_); ((refine Exec.stab rfl (Stab.int rfl rfl rfl) rfl ?_))) | ((with_reducible refine Knd.alloc ?_); (first | (refine Exec.alloc (tysOk.get rfl) rfl rfl (fun b => ?_)) | (refine Exec.alloc1 (tysOk.get rfl) rfl rfl rfl (fun b => ?_)))) | ((with_reducible refine Knd.build ?_); ((refine Exec.stab rfl (Stab.build tysOk rfl rfl rfl rfl (by repeat (exact BuildP.nil))) rfl ?_))))) | (with_reducible refine Tr.next ?_) | (with_reducible refine Tr.seq ?_) | (with_reducible refine Tr.region ?_) | (with_reducible refine Tr.nil ?_) | (with_reducible refine Tr.then_panic ?_) | (refine Tr.cond_t rfl (by first | (with_reducible assumption) | omega) ?_))
    refine Tr.doneP (A' := []) (Mem.le.refl _) (by repeat (first | exact DropL.refl | apply DropL.skip)) ⟨⟨rfl, rfl⟩, fun k n r1 hk => by cases hk⟩
  | succ k =>
    have ihk := ih k (by omega)
    repeat (first | ((with_reducible refine Tr.step rfl ?_); (first | ((with_reducible refine Knd.move ?_); (refine Exec.stab rfl (Stab.move rfl) rfl ?_)) | ((with_reducible refine Knd.binOp ?_); ((refine Exec.stab rfl (Stab.int rfl rfl rfl) rfl ?_))) | ((with_reducible refine Knd.store ?_); ((refine Exec.storeW rfl rfl (tysOk.get rfl) (by repeat (first | exact Upd.here | apply Upd.there)) rfl rfl (by repeat (first | exact AllOne.nil | refine AllOne.cons (by first | rfl | assumption) ?_)) ?_))) | ((with_reducible refine Knd.alloc ?_); (first | (refine Exec.alloc (tysOk.get rfl) rfl rfl (fun b => ?_)) | (refine Exec.alloc1 (tysOk.get rfl) rfl rfl rfl (fun b => ?_)))) | ((with_reducible refine Knd.build ?_); ((refine Exec.stab rfl (Stab.build tysOk rfl rfl rfl rfl (by repeat (first | exact BuildP.nil | ((apply BuildP.one); (rfl); (rfl); (first | rfl | assumption); (repeat (first | exact SetL.z | apply SetL.s)))))) rfl ?_))))) | (with_reducible refine Tr.next ?_) | (with_reducible refine Tr.seq ?_) | (with_reducible refine Tr.region ?_) | (with_reducible refine Tr.nil ?_) | (with_reducible refine Tr.skip ?_) | (refine Tr.cond_f rfl (by first | (with_reducible assumption) | omega) ?_))
    generalize hb5 : b = b5
    rename_i b4
    ((refine Tr.step rfl ?_))
    refine Exec.callP rfl (rnum_fn M p bs x h) (show ([x] ++ (box _ 24 _ :: box _ 24 _ :: ([] ++ F))).Perm _ from ((List.Perm.swap _ _ _).trans ((List.Perm.swap _ _ _).cons _))) rfl (fun v M' A' hm hR => ?_) (fun ch M' A' hm hR => ?_)
    rotate_left
    · obtain ⟨⟨rfl, rfl⟩, hn⟩ := hR
      repeat ((with_reducible refine Tr.then_panic ?_))
      refine Tr.doneP (A' := []) hm (by repeat (first | exact DropL.refl | apply DropL.skip)) ⟨⟨rfl, rfl⟩, fun k n rest _ h => by rw [hn] at h; cases h⟩
    obtain ⟨rfl, n, r1, x2, hn, rfl, rfl, hx2⟩ := hR
    have hu := (rdN_lt (by omega) hn).1
    have hr1 := rdN_len hn
    repeat (first | ((with_reducible refine Tr.step rfl ?_); (((with_reducible refine Knd.move ?_); (refine Exec.stab rfl (Stab.move rfl) rfl ?_)))) | (with_reducible refine Tr.next ?_) | (with_reducible refine Tr.nil ?_) | (with_reducible refine Tr.block ?_))
    refine Tr.own_nil 24 4 ?_
    refine Tr.perm (L' := x2 :: ownS 24 4 none 0 0 [] :: box b5 24 [.int .i64 3, .int .i64 0, .string ⟨#[]⟩, .slice none 0 0] :: box b4 24 [.int .i64 0, .int .i64 0, .string ⟨#[]⟩, .slice none 0 0] :: ([] ++ F)) (List.Perm.swap _ _ _) ?_
    refine Tr.loop (α := Nat × List Val × List UInt8 × Res × Mem × Option Addr × Nat × List Value) (fun y => ⟨26, [(13, .int .u64 (y.1 : Int)), (12, .int .u64 (n : Int)), (5, .pointer (some ⟨b5, 0, none⟩)), (4, .pointer (some ⟨b4, 0, none⟩)), (0, .pointer (some ⟨p, 0, none⟩)), (1, .int .i64 ((k + 1 : Nat) : Int))], [], y.2.2.2.2.1,
        y.2.2.2.1 :: ownS 24 4 y.2.2.2.2.2.1 y.2.1.length y.2.2.2.2.2.2.1 y.2.2.2.2.2.2.2 :: box b5 24 [.int .i64 3, .int .i64 0, .string ⟨#[]⟩, .slice y.2.2.2.2.2.1 y.2.1.length y.2.2.2.2.2.2.1] :: box b4 24 [.int .i64 0, .int .i64 0, .string ⟨#[]⟩, .slice none 0 0] :: ([] ++ F)⟩)
      (fun y => y.1 ≤ n ∧ y.2.1.length = y.1 ∧ Rdr y.2.2.2.2.1 p y.2.2.1 y.2.2.2.1 ∧ Mem.le M y.2.2.2.2.1 ∧ y.2.2.2.2.2.2.1 ≤ 9223372036854775807 ∧ Elems 4 (fun M c x => RVal M c x) y.2.2.2.2.1 y.2.2.2.2.2.2.2 y.2.1 ∧ y.2.2.1.length + y.1 ≤ r1.length ∧ rdL (rdV k) n r1 = (rdL (rdV k) (n - y.1) y.2.2.1).map fun z => (y.2.1 ++ z.1, z.2))
      (fun y => n - y.1) (0, [], r1, x2, M, none, 0, []) ⟨Nat.zero_le _, rfl, hx2, Mem.le.refl _, by simp, Elems.nil, Nat.le_refl _, by simp only [Nat.sub_zero]; cases rdL (rdV k) n r1 <;> simp⟩ (holds_sub (by repeat (first | exact SubFr.nil | refine SubFr.cons rfl ?_)) (by repeat (first | exact DropL.refl | apply DropL.skip))) (fun y hy => ?_)
    obtain ⟨i, l, rest, x3, M1, A3, c3, cells⟩ := y
    obtain ⟨i1, i2, i3, i4, i5, i6, i7, i8⟩ := hy
    simp only at i1 i2 i3 i4 i5 i6 i7 i8
    dsimp only
    have hu' : n ≤ 18446744073709551615 := by omega
    by_cases hlt : i < n
    · have hk1 : ((k + 1 : Nat) : Int) - 1 = (k : Int) := by omega
      repeat (first | ((with_reducible refine Tr.step rfl ?_); (((with_reducible refine Knd.binOp ?_); ((refine Exec.stab rfl (Stab.int rfl rfl rfl) rfl ?_))))) | (with_reducible refine Tr.next ?_) | (with_reducible refine Tr.seq ?_) | (with_reducible refine Tr.region ?_) | (with_reducible refine Tr.nil ?_) | (with_reducible refine Tr.skip ?_) | (with_reducible refine Tr.block ?_) | (refine Tr.cond_t rfl (by first | (with_reducible assumption) | omega) ?_))
      (((apply Tr.draw (box b5 24 [.int .i64 3, .int .i64 0, .string ⟨#[]⟩, .slice A3 l.length c3] :: _)); (kernel_rfl)); (refine TrA.take 0 (by kernel_rfl) rfl (by kernel_rfl) (by first | exact fun _ _ _ h => h | exact fun _ _ _ h => nomatch h.1) (by first | exact fun _ h => h | (intro r h; cases h; done) | exact (Sub.mem (by repeat (first | exact Sub.refl | apply Sub.cons)))) rfl (by exact Stab.fieldZ rfl (tysOk.get rfl) rfl rfl (tysOk.get rfl) rfl) rfl rfl ?_); (refine TrA.take 1 (by kernel_rfl) rfl (by kernel_rfl) (by first | exact fun _ _ _ h => h | exact fun _ _ _ h => nomatch h.1) (by first | exact fun _ h => h | (intro r h; cases h; done) | exact (Sub.mem (by repeat (first | exact Sub.refl | apply Sub.cons)))) rfl (by exact Stab.load rfl (tysOk.get rfl) rfl (by repeat (first | exact Has.here | apply Has.there)) rfl) rfl rfl ?_); (refine TrA.take 2 (by kernel_rfl) rfl (by kernel_rfl) (by first | exact fun _ _ _ h => h | exact fun _ _ _ h => nomatch h.1) (by first | exact fun _ h => h | (intro r h; cases h; done) | exact (Sub.mem (by repeat (first | exact Sub.refl | apply Sub.cons)))) rfl (by first | exact Stab.move rfl) rfl rfl ?_); (refine TrA.take 3 (by kernel_rfl) rfl (by kernel_rfl) (by first | exact fun _ _ _ h => h | exact fun _ _ _ h => nomatch h.1) (by first | exact fun _ h => h | (intro r h; cases h; done) | exact (Sub.mem (by repeat (first | exact Sub.refl | apply Sub.cons)))) rfl (by first | exact Stab.move rfl) rfl rfl ?_); (refine TrA.take 4 (by kernel_rfl) rfl (by kernel_rfl) (by first | exact fun _ _ _ h => h | exact fun _ _ _ h => nomatch h.1) (by first | exact fun _ h => h | (intro r h; cases h; done) | exact (Sub.mem (by repeat (first | exact Sub.refl | apply Sub.cons)))) rfl (by exact Stab.subi rfl rfl (by omega)) rfl rfl ?_))
      rw [hk1]
      ((refine TrA.eff 5 rfl (by kernel_rfl) (by first | exact .inl rfl | exact .inr ⟨_, _, _, rfl, rfl, rfl⟩) ?_))
      refine Exec.callP rfl (ihk M1 p rest x3 i3 (by omega)) (List.Perm.refl _) rfl (fun v M' A' hm hR => ?_) (fun ch M' A' hm hR => ?_)
      rotate_left
      · obtain ⟨⟨rfl, rfl⟩, hno⟩ := hR
        repeat (first | (with_reducible refine Tr.then_panic ?_) | (with_reducible refine Tr.in_panic ?_))
        refine Tr.doneP (A' := []) (i4.trans hm) (by repeat (first | exact DropL.refl | apply DropL.skip)) ⟨⟨rfl, rfl⟩, fun k' n' r' e1 e2 => by cases e1; rw [hn] at e2; cases e2; exact rdL_fail hlt i8 hno⟩
      obtain ⟨v, r2, x4, hv, hRV, rfl, hx4⟩ := hR
      obtain ⟨A5, c5, rfl, hRV', -⟩ := hRV.open_
      have hr2 := rdV_len _ _ _ _ hv
      refine ⟨hm, (by first | exact fun _ h => h | (intro r h; cases h; done) | exact (Sub.mem (by repeat (first | exact Sub.refl | apply Sub.cons)))), ?_⟩
      ((refine TrA.eff 6 rfl (by kernel_rfl) (by first | exact .inl rfl | exact .inr ⟨_, _, _, rfl, rfl, rfl⟩) ?_); (((refine Knd.buildSlice ?_); (refine Exec.buildSlice (tysOk.get rfl) rfl (tysOk.get rfl) rfl rfl rfl rfl rfl (by repeat (first | exact BuildP.nil | ((apply BuildP.many); (rfl); (rfl); (rfl); (rfl); (repeat (first | exact PutL.nil | ((apply PutL.cons); (repeat (first | exact SetL.z | apply SetL.s)))))))) rfl (fun b => ?_)))); (refine ⟨(by first | exact Mem.le.refl _ | assumption), (by first | exact fun _ h => h | (intro r h; cases h; done) | exact (Sub.mem (by repeat (first | exact Sub.refl | apply Sub.cons)))), ?_⟩); (refine TrA.eff 7 rfl (by kernel_rfl) (by first | exact .inl rfl | exact .inr ⟨_, _, _, rfl, rfl, rfl⟩) ?_))
      refine Exec.append (news := [.int .i64 v.k, .int .i64 v.n, .string ⟨v.s.toArray⟩, .slice A5 v.l.length c5]) rfl rfl (tysOk.get rfl) rfl (tysOk.get rfl) rfl rfl rfl rfl (by repeat (first | exact Del.here | apply Del.there)) (Src.box (by repeat (first | exact Has.here | apply Has.there))) rfl (by intro u hu; simp at hu; rcases hu with rfl | rfl | rfl | rfl <;> rfl) (by omega) (by omega) rfl (fun A6 c6 hc6 => ?_)
      refine ⟨Mem.le.refl _, (by first | exact fun _ h => h | (intro r h; cases h; done) | exact (Sub.mem (by repeat (first | exact Sub.refl | apply Sub.cons)))), ?_⟩
      rw [show l.length + 1 = (l ++ [v]).length by simp]
      ((refine TrA.take 8 (by kernel_rfl) rfl (by kernel_rfl) (by first | exact fun _ _ _ h => h | exact fun _ _ _ h => nomatch h.1) (by first | exact fun _ h => h | (intro r h; cases h; done) | exact (Sub.mem (by repeat (first | exact Sub.refl | apply Sub.cons)))) rfl (by exact Stab.fieldZ rfl (tysOk.get rfl) rfl rfl (tysOk.get rfl) rfl) rfl rfl ?_); (refine TrA.effD 9 rfl (by kernel_rfl) (by kernel_rfl) (by first | exact .inl rfl | exact .inr ⟨_, _, _, rfl, rfl, rfl⟩) ?_); (((refine Knd.store ?_); ((refine Exec.store rfl rfl (tysOk.get rfl) rfl (by first | rfl | assumption) (by repeat (first | exact Upd.here | apply Upd.there)) (by repeat (first | exact SetL.z | apply SetL.s)) ?_)))); (refine ⟨_, fun _ h => h, ?_⟩); (refine TrA.done (by kernel_rfl) ?_))
      repeat (first | ((with_reducible refine Tr.step rfl ?_); (first | ((with_reducible refine Knd.move ?_); (refine Exec.stab rfl (Stab.move rfl) rfl ?_)) | ((with_reducible refine Knd.binOp ?_); ((refine Exec.stab rfl (Stab.addu64 rfl rfl (by omega)) rfl ?_))))) | (with_reducible refine Tr.next ?_) | (with_reducible refine Tr.region ?_) | (with_reducible refine Tr.nil ?_) | (with_reducible refine Tr.in_normal ?_))
      refine Tr.give (r := box _ 24 _) (by repeat (first | exact Del.here | apply Del.there)) ?_
      refine Tr.perm (List.Perm.swap _ _ _) ?_
      obtain ⟨ccs, ecs, hcs⟩ := hRV'
      have ecs' : ccs = [.int .i64 v.k, .int .i64 v.n, .string ⟨v.s.toArray⟩, .slice A5 v.l.length c5] := by
        have := Value.agg.inj ecs
        simpa using (congrArg Array.toList this).symm
      subst ecs'
      refine Tr.again (i + 1, l ++ [v], r2, x4, M', A6, c6, _) ⟨by simp only; omega, by simp [i2], hx4, i4.trans hm, hc6, (i6.mono RVal.mono' hm).append (Elems.one rfl hcs), by simp only; omega, rdL_snoc hlt i8 hv⟩ (by simp only; omega) (holds_sub (by repeat (first | exact SubFr.nil | refine SubFr.cons rfl ?_)) (by repeat (first | exact DropL.refl | apply DropL.skip)))
    · have hin : i = n := by omega
      subst hin
      rw [Nat.sub_self] at i8
      refine Tr.publish (r := ownS 24 4 _ _ _ _) (by repeat (first | exact Del.here | apply Del.there)) (fun M2 hm2 hok2 => ?_)
      have hs := SlOf.ofOwn hok2 rfl i5 (i6.mono RVal.mono' hm2)
      have hm := i4.trans hm2
      repeat (first | ((with_reducible refine Tr.step rfl ?_); (first | ((with_reducible refine Knd.load ?_); ((refine Exec.stab rfl (Stab.loadW rfl (tysOk.get rfl) rfl (by repeat (first | exact Has.here | apply Has.there)) rfl) rfl ?_))) | ((with_reducible refine Knd.binOp ?_); ((refine Exec.stab rfl (Stab.int rfl rfl rfl) rfl ?_))) | ((with_reducible refine Knd.store ?_); ((refine Exec.storeW rfl rfl (tysOk.get rfl) (by repeat (first | exact Upd.here | apply Upd.there)) rfl rfl (by repeat (first | exact AllOne.nil | refine AllOne.cons (by first | rfl | assumption) ?_)) ?_))))) | (with_reducible refine Tr.next ?_) | (with_reducible refine Tr.seq ?_) | (with_reducible refine Tr.region ?_) | (with_reducible refine Tr.nil ?_) | (with_reducible refine Tr.exit ?_) | (with_reducible refine Tr.ret ?_) | (with_reducible refine Tr.then_exit ?_) | ((with_reducible refine Tr.in_exit ?_ ?_); (exact rfl)) | (refine Tr.cond_f rfl (by first | (with_reducible assumption) | omega) ?_))
      refine Tr.ofPost ?_
      refine Tr.doneB (A' := [x3]) [box b5 24 _, box b4 24 _] (by first | exact .inl rfl | exact .inr rfl) rfl (by repeat (first | exact RVs.nil | (apply RVs.cons; (exact RV.cellW (by rfl) (tysOk.get (by rfl)) (by rfl) (by repeat (first | exact Has.here | apply Has.there)) (by rfl))))) hm ((List.Perm.swap _ _ _).trans ((List.Perm.swap _ _ _).cons _)) ⟨k, i, r1, l, rest, x3, rfl, hn, by rw [i8]; simp [rdL], ⟨_, rfl, RVal.close (s := []) (by omega) (by omega) (by simp) hs⟩, rfl, i3.mono hm2⟩

theorem rdV_eq (room : Nat) (k : UInt8) (bs : List UInt8) : rdV room (k :: bs) = rdStep (match room with | 0 => none | r + 1 => some (rdV r)) (k :: bs) := by cases room <;> rfl
set_option maxHeartbeats 2000000 in
theorem value_fn : ∀ (room : Nat), room ≤ 16 → ValueOk room := by
  intro room
  induction room using Nat.strongRecOn with
  | _ room ih =>
  intro hroom M p bs x h hlen
  have ih' : ∀ k, k < room → ValueOk k := fun k hk => ih k hk (by omega)
  refine FnP.intro Try.func33 rfl rfl Try.ntmps33 rfl fun E F => ?_
  repeat (first | ((with_reducible refine Tr.step rfl ?_); (first | ((with_reducible refine Knd.move ?_); (refine Exec.stab rfl (Stab.move rfl) rfl ?_)) | ((with_reducible refine Knd.alloc ?_); (first | (refine Exec.alloc (tysOk.get rfl) rfl rfl (fun b => ?_)) | (refine Exec.alloc1 (tysOk.get rfl) rfl rfl rfl (fun b => ?_)))))) | (with_reducible refine Tr.next ?_) | (with_reducible refine Tr.seq ?_) | (with_reducible refine Tr.region ?_) | (with_reducible refine Tr.nil ?_))
  generalize hb4 : b = b4
  ((refine Tr.step rfl ?_))
  refine Exec.callP rfl (take_fn M p bs x h 1 (by omega)) (List.Perm.swap _ _ _) rfl (fun v M' A' hm hR => ?_) (fun ch M' A' hm hR => ?_)
  rotate_left
  · obtain ⟨⟨rfl, rfl⟩, hlt⟩ := hR
    have hnil : bs = [] := List.eq_nil_of_length_eq_zero (by omega)
    subst hnil
    repeat ((with_reducible refine Tr.then_panic ?_))
    refine Tr.doneP (A' := []) hm (by repeat (first | exact DropL.refl | apply DropL.skip)) ⟨⟨rfl, rfl⟩, by cases room <;> rfl⟩
  obtain ⟨rfl, hle, ⟨A1, c1, rfl, hb1⟩, x2, rfl, hx2⟩ := hR
  cases bs with
  | nil => simp at hle
  | cons c r =>
  have hb1' : BSl M (.slice A1 1 c1) [c] := by simpa using hb1
  obtain ⟨hA1, hat⟩ := hb1'.byte (j := 0) (c := c) rfl
  have hx2' : Rdr M p r x2 := by simpa using hx2
  have hc8 := c.toNat_lt
  have hrl : r.length ≤ 1000000000 := by simp at hlen; omega
  repeat (first | ((with_reducible refine Tr.step rfl ?_); (first | ((with_reducible refine Knd.move ?_); (refine Exec.stab rfl (Stab.move rfl) rfl ?_)) | ((with_reducible refine Knd.assign ?_); (refine Exec.stab rfl (Stab.assign rfl) rfl ?_)) | ((with_reducible refine Knd.load ?_); ((refine Exec.stab rfl (Stab.loadM rfl (tysOk.get rfl) rfl (by assumption)) rfl ?_))) | ((with_reducible refine Knd.indexAddr ?_); ((refine Exec.stab rfl (Stab.indexAddr rfl rfl (tysOk.get rfl) rfl (tysOk.get rfl) rfl (by omega) (by omega) (by first | rfl | assumption)) rfl ?_))) | ((with_reducible refine Knd.convert ?_); ((refine Exec.stab rfl (Stab.convi rfl (tysOk.get rfl) (tysOk.get rfl) rfl rfl (by omega)) rfl ?_))))) | (with_reducible refine Tr.next ?_) | (with_reducible refine Tr.seq ?_) | (with_reducible refine Tr.region ?_) | (with_reducible refine Tr.nil ?_))
  ((refine Tr.step rfl ?_)); refine Exec.call0 rfl (known_fn M (c.toNat : Int)) rfl ?_
  rintro _ _ _ ⟨rfl, rfl⟩
  by_cases hkn : 1 ≤ (c.toNat : Int) ∧ (c.toNat : Int) ≤ 3
  rotate_left
  · have hf : decide (1 ≤ (c.toNat : Int) ∧ (c.toNat : Int) ≤ 3) = false := decide_eq_false hkn
    rw [hf]
    repeat (first | ((with_reducible refine Tr.step rfl ?_); (first | ((with_reducible refine Knd.makeInterface ?_); (refine Exec.stab rfl (Stab.makeIface rfl (by kernel_rfl)) rfl ?_)) | ((with_reducible refine Knd.panic ?_); (refine Exec.panic rfl ?_)) | ((with_reducible refine Knd.unOp ?_); (first | (refine Exec.stab rfl (Stab.notd rfl) rfl ?_) | (refine Exec.stab rfl (Stab.not rfl) rfl ?_) | (refine Exec.stab rfl (Stab.neg rfl (by omega)) rfl ?_))) | ((with_reducible refine Knd.build ?_); ((refine Exec.stab rfl (Stab.build tysOk rfl rfl rfl rfl (by repeat (exact BuildP.nil))) rfl ?_))))) | (with_reducible refine Tr.next ?_) | (with_reducible refine Tr.region ?_) | (with_reducible refine Tr.nil ?_) | (with_reducible refine Tr.then_panic ?_) | (refine Tr.cond_bt rfl (by first | (with_reducible rfl) | (with_reducible assumption) | (with_reducible exact Bool.not_true) | (with_reducible exact Bool.not_false)) ?_))
    refine Tr.doneP (A' := []) hm (by repeat (first | exact DropL.refl | apply DropL.skip)) ⟨⟨rfl, rfl⟩, by rw [rdV_eq, rdStep_cons, if_neg (by omega), if_neg (by omega), if_neg (by omega)]⟩
  rw [decide_eq_true hkn]
  repeat (first | ((with_reducible refine Tr.step rfl ?_); (((with_reducible refine Knd.unOp ?_); (first | (refine Exec.stab rfl (Stab.notd rfl) rfl ?_) | (refine Exec.stab rfl (Stab.not rfl) rfl ?_) | (refine Exec.stab rfl (Stab.neg rfl (by omega)) rfl ?_))))) | (with_reducible refine Tr.next ?_) | (with_reducible refine Tr.seq ?_) | (with_reducible refine Tr.region ?_) | (with_reducible refine Tr.nil ?_) | (with_reducible refine Tr.skip ?_) | (refine Tr.cond_bf rfl (by first | (with_reducible rfl) | (with_reducible assumption) | (with_reducible exact Bool.not_true) | (with_reducible exact Bool.not_false)) ?_))
  ((refine Tr.step rfl ?_)); refine Exec.call0 rfl (kinds_fn M) rfl ?_
  rintro _ _ _ ⟨rfl, rfl⟩
  by_cases h1 : c.toNat = 1
  · rw [h1]
    repeat (((with_reducible refine Tr.step rfl ?_); (first | ((with_reducible refine Knd.move ?_); (refine Exec.stab rfl (Stab.move rfl) rfl ?_)) | ((with_reducible refine Knd.index ?_); (refine Exec.stab rfl (Stab.indexVA rfl rfl (tysOk.get rfl) rfl (tysOk.get rfl) rfl (by omega) (by omega) rfl (by repeat (first | exact TakeL.z | apply TakeL.s))) rfl ?_)) | ((with_reducible refine Knd.field ?_); ((refine Exec.stab rfl (Stab.field rfl (tysOk.get rfl) rfl rfl (tysOk.get rfl) rfl rfl) rfl ?_))))))
    ((refine Tr.step rfl ?_))
    refine Exec.callPv (first := []) (cap := []) rfl rfl (readInt_fn M p r x2 room hx2') (List.Perm.refl _) rfl (fun v M' A' hm hR => ?_) (fun ch M' A' hm hR => ?_)
    rotate_left
    · obtain ⟨⟨rfl, rfl⟩, hno⟩ := hR
      repeat ((with_reducible refine Tr.then_panic ?_))
      refine Tr.doneP (A' := []) hm (by repeat (first | exact DropL.refl | apply DropL.skip)) ⟨⟨rfl, rfl⟩, by rw [rdV_eq, rdStep_cons, if_pos h1, hno]; rfl⟩
    obtain ⟨rfl, u, rest, x3, hn, hRV, rfl, hx3⟩ := hR
    obtain ⟨A5, c5, rfl, hRV', -⟩ := hRV.open_
    repeat (first | ((with_reducible refine Tr.step rfl ?_); (((with_reducible refine Knd.store ?_); ((refine Exec.storeW rfl rfl (tysOk.get rfl) (by repeat (first | exact Upd.here | apply Upd.there)) rfl rfl (by repeat (first | exact AllOne.nil | refine AllOne.cons (by first | rfl | assumption) ?_)) ?_))))) | (with_reducible refine Tr.next ?_) | (with_reducible refine Tr.nil ?_) | (with_reducible refine Tr.ret ?_))
    refine Tr.ofPost ?_
    refine Tr.doneB (A' := [x3]) [box b4 24 _] (by first | exact .inl rfl | exact .inr rfl) rfl (by repeat (first | exact RVs.nil | (apply RVs.cons; (exact RV.cellW (by rfl) (tysOk.get (by rfl)) (by rfl) (by repeat (first | exact Has.here | apply Has.there)) (by rfl))))) (Mem.le.refl _) (List.Perm.swap _ _ _) ?_
    exact ⟨_, rest, x3, by rw [rdV_eq, rdStep_cons, if_pos h1, hn]; rfl, hRV', rfl, hx3⟩
  by_cases h2 : c.toNat = 2
  · rw [h2]
    repeat (((with_reducible refine Tr.step rfl ?_); (first | ((with_reducible refine Knd.move ?_); (refine Exec.stab rfl (Stab.move rfl) rfl ?_)) | ((with_reducible refine Knd.index ?_); (refine Exec.stab rfl (Stab.indexVA rfl rfl (tysOk.get rfl) rfl (tysOk.get rfl) rfl (by omega) (by omega) rfl (by repeat (first | exact TakeL.z | apply TakeL.s))) rfl ?_)) | ((with_reducible refine Knd.field ?_); ((refine Exec.stab rfl (Stab.field rfl (tysOk.get rfl) rfl rfl (tysOk.get rfl) rfl rfl) rfl ?_))))))
    ((refine Tr.step rfl ?_))
    refine Exec.callPv (first := []) (cap := []) rfl rfl (readText_fn M p r x2 room hx2') (List.Perm.refl _) rfl (fun v M' A' hm hR => ?_) (fun ch M' A' hm hR => ?_)
    rotate_left
    · obtain ⟨⟨rfl, rfl⟩, hno⟩ := hR
      repeat ((with_reducible refine Tr.then_panic ?_))
      refine Tr.doneP (A' := []) hm (by repeat (first | exact DropL.refl | apply DropL.skip)) ⟨⟨rfl, rfl⟩, ?_⟩
      rw [rdV_eq, rdStep_cons, if_neg h1, if_pos h2]
      cases hn : rdN 0 r with
      | none => rfl
      | some z =>
        obtain ⟨n, rest⟩ := z
        have := hno n rest hn
        dsimp only
        rw [if_neg (by omega)]
    obtain ⟨rfl, n, rest, x3, hn, hle', hRV, rfl, hx3⟩ := hR
    obtain ⟨A5, c5, rfl, hRV', -⟩ := hRV.open_
    repeat (first | ((with_reducible refine Tr.step rfl ?_); (((with_reducible refine Knd.store ?_); ((refine Exec.storeW rfl rfl (tysOk.get rfl) (by repeat (first | exact Upd.here | apply Upd.there)) rfl rfl (by repeat (first | exact AllOne.nil | refine AllOne.cons (by first | rfl | assumption) ?_)) ?_))))) | (with_reducible refine Tr.next ?_) | (with_reducible refine Tr.nil ?_) | (with_reducible refine Tr.ret ?_))
    refine Tr.ofPost ?_
    refine Tr.doneB (A' := [x3]) [box b4 24 _] (by first | exact .inl rfl | exact .inr rfl) rfl (by repeat (first | exact RVs.nil | (apply RVs.cons; (exact RV.cellW (by rfl) (tysOk.get (by rfl)) (by rfl) (by repeat (first | exact Has.here | apply Has.there)) (by rfl))))) (Mem.le.refl _) (List.Perm.swap _ _ _) ?_
    exact ⟨_, rest.drop n, x3, by rw [rdV_eq, rdStep_cons, if_neg h1, if_pos h2, hn]; dsimp only; rw [if_pos hle'], hRV', rfl, hx3⟩
  have h3 : c.toNat = 3 := by omega
  rw [h3]
  repeat (((with_reducible refine Tr.step rfl ?_); (first | ((with_reducible refine Knd.move ?_); (refine Exec.stab rfl (Stab.move rfl) rfl ?_)) | ((with_reducible refine Knd.index ?_); (refine Exec.stab rfl (Stab.indexVA rfl rfl (tysOk.get rfl) rfl (tysOk.get rfl) rfl (by omega) (by omega) rfl (by repeat (first | exact TakeL.z | apply TakeL.s))) rfl ?_)) | ((with_reducible refine Knd.field ?_); ((refine Exec.stab rfl (Stab.field rfl (tysOk.get rfl) rfl rfl (tysOk.get rfl) rfl rfl) rfl ?_))))))
  ((refine Tr.step rfl ?_))
  refine Exec.callPv (first := []) (cap := []) rfl rfl (readList_fn room hroom ih' M p r x2 hx2' hrl) (List.Perm.refl _) rfl (fun v M' A' hm hR => ?_) (fun ch M' A' hm hR => ?_)
  rotate_left
  · obtain ⟨⟨rfl, rfl⟩, hno⟩ := hR
    repeat ((with_reducible refine Tr.then_panic ?_))
    refine Tr.doneP (A' := []) hm (by repeat (first | exact DropL.refl | apply DropL.skip)) ⟨⟨rfl, rfl⟩, ?_⟩
    rw [rdV_eq, rdStep_cons, if_neg h1, if_neg h2, if_pos h3]
    cases room with
    | zero => rfl
    | succ k =>
      dsimp only
      cases hn : rdN 0 r with
      | none => rfl
      | some z =>
        obtain ⟨n, r1⟩ := z
        dsimp only
        rw [hno k n r1 rfl hn]
        rfl
  obtain ⟨k, n, r1, l, rest, x3, rfl, hn, hl, hRV, rfl, hx3⟩ := hR
  obtain ⟨A5, c5, rfl, hRV', -⟩ := hRV.open_
  repeat (first | ((with_reducible refine Tr.step rfl ?_); (((with_reducible refine Knd.store ?_); ((refine Exec.storeW rfl rfl (tysOk.get rfl) (by repeat (first | exact Upd.here | apply Upd.there)) rfl rfl (by repeat (first | exact AllOne.nil | refine AllOne.cons (by first | rfl | assumption) ?_)) ?_))))) | (with_reducible refine Tr.next ?_) | (with_reducible refine Tr.nil ?_) | (with_reducible refine Tr.ret ?_))
  refine Tr.ofPost ?_
  refine Tr.doneB (A' := [x3]) [box b4 24 _] (by first | exact .inl rfl | exact .inr rfl) rfl (by repeat (first | exact RVs.nil | (apply RVs.cons; (exact RV.cellW (by rfl) (tysOk.get (by rfl)) (by rfl) (by repeat (first | exact Has.here | apply Has.there)) (by rfl))))) hm (List.Perm.swap _ _ _) ?_
  exact ⟨_, rest, x3, by rw [rdV_eq, rdStep_cons, if_neg h1, if_neg h2, if_pos h3]; dsimp only; rw [hn]; dsimp only; rw [hl]; rfl, hRV', rfl, hx3⟩
end Go.Proofs.Ytgcjpicnibeemaa
