/-
  Texts of the proof, one after the other.
  Conditions: none.
-/
import Derived.Test.YtgnipfjjkliibaaP3BfOwnN
import Derived.Test.YtgnipfjjkliibaaP3BfStruct
import Derived.Test.YtgnipfjjkliibaaP3Xs
import Derived.Test.YtgnipfjjkliibaaP3b
/-
  Honour: without.
  Conditions: none.
-/
namespace Go.Proofs.Ytgnipfjjkliibaa
open Go Bf
attribute [local irreducible] Tr Exec Stab HasTy Go.Addr.add IntKind.wrap
theorem nats__get {l : List Nat} {i t : Nat} (h : l[i]? = some t) : (nats_ l)[i]? = some (t : Int) := by simp [nats_, h]
set_option maxHeartbeats 16000000 in
theorem without_fn (M : Mem) (vb vs : Value) (k : Bk) (hB : RBk M vb k) (A : Option Addr) (c : Nat) (l : List Hp) (hl : SlOf 5 RHp M (.slice A l.length c) l) (s : St) (hS : RSt M vs (fxB k) s) (hrun : runF k l = some s) (j : Nat) (hj : j ≤ l.length)
    (Ai : Option Addr) (ci : Nat) (idx : List Nat) (hx : Ints M (.slice Ai idx.length ci) (nats_ idx)) (hidx : ∀ t ∈ idx, t < l.length ∧ (l.getD t zH).kind ≠ 3) (hll : l.length ≤ 1000) (hil : idx.length ≤ 1000) :
    Fn0 Try.prog 57 [vb, .slice A l.length c, vs, .int .i64 (j : Int), .slice Ai idx.length ci] M (fun r M' => RSt M' r (fxB k) (withF k l s.br j idx)) := by
  have hbe := hbegin_own M _ k hB
  obtain ⟨As, cs, Ar, cr, Af, cf, Ad, cd, rfl, h1, h2, h3⟩ := hB
  obtain ⟨Bf, kf, Ba, ka, Bd, kd, Bn, kn, Bu, ku, Bb, kb, rfl, q1, q2, q3, q4, q5, q6⟩ := hS
  obtain ⟨hfb, hfit, -⟩ := run_keep hrun
  have hfb2 := begin_fit hfb
  have hs64 := hfb.1
  have hr64 := hfb.2.1
  obtain ⟨n1, n2, n3, n4⟩ := run_len hrun
  obtain ⟨m1, m2, m3, m4⟩ := begin_len k
  have hok := run_ok hrun
  have hamt := run_amt hrun
  have hcl := hl.len_le
  obtain ⟨-, -, hlc, -⟩ := SlOf.cells hl
  have hjc : j ≤ c := Nat.le_trans hj hlc
  refine Fn.intro Try.func57 rfl rfl Try.ntmps57 rfl fun E F => ?_
  (repeat (first | ((with_reducible refine Tr.step rfl ?_); (first | (refine xwQ (z := ?_)) | ((with_reducible refine Knd.box ?_); (refine Exec.box rfl rfl (fun b => ?_))) | ((with_reducible refine Knd.alloc ?_); (refine Exec.alloc (tysOk.get rfl) rfl rfl (fun b => ?_))))) | (with_reducible first | apply Tr.next | apply Tr.seq | apply Tr.region | apply Tr.nil)))
  generalize b = b10
  rename_i b5 b7
  ((refine Tr.step rfl ?_))
  refine Exec.call (A := []) rfl (hbe (by omega) (by omega)) (List.Perm.refl _) rfl ?_
  rintro _ _ _ - ⟨rfl, Af2, cf2, A1, c1, A2, c2, A3, c3, A4, c4, A5, c5, rfl, hff, ⟨hc1, hc2, hc3, hc4, hc5⟩, rfl⟩
  simp only [List.cons_append, List.nil_append]
  (repeat (first | ((with_reducible refine Tr.step rfl ?_); (first | (refine xmQ (z := ?_)) | (refine xnQ (z := ?_)) | (refine xWQ (z := ?_)) | ((with_reducible refine Knd.alloc ?_); (refine Exec.alloc (tysOk.get rfl) rfl rfl (fun b => ?_))) | ((with_reducible refine Knd.slice ?_); (refine Exec.stab rfl (Stab.slice_h rfl rfl (tysOk.get rfl) rfl (tysOk.get rfl) (by omega) (by omega)) rfl ?_)))) | (with_reducible first | apply Tr.next | apply Tr.seq | apply Tr.region | apply Tr.nil | apply Tr.block)))
  generalize b = b11
  rw [Int.toNat_natCast j]
  refine Tr.loop (α := Nat × St) (fun y => ⟨113, [(25, .int .i64 (y.1 : Int)), (24, .int .i64 (j : Int)), (23, .slice A j c), (11, .pointer (some ⟨b11, 0, none⟩)), (10, .pointer (some ⟨b10, 0, none⟩)), (7, .pointer (some ⟨b7, 0, none⟩)), (1, .slice A l.length c), (3, .int .i64 (j : Int)), (4, .slice Ai idx.length ci)], [], M,
      box b11 64 [.slice Af2 k.fits.length cf2, .slice A1 k.sups.length c1, .slice A2 k.sups.length c2, .slice A3 k.reqs.length c3, .slice A4 k.reqs.length c4, .slice A5 k.reqs.length c5] :: ownS 3 1 A3 k.reqs.length c3 (intV y.2.nd) :: ownS 3 1 A4 k.reqs.length c4 (intV (fxB k).due) :: ownS 3 1 A5 k.reqs.length c5 (intV (beginF k).br) :: ownS 3 1 A1 k.sups.length c1 (intV y.2.am) :: ownS 3 1 A2 k.sups.length c2 (intV (beginF k).dy) ::
      box b10 64 [.slice none 0 0, .slice none 0 0, .slice none 0 0, .slice none 0 0, .slice none 0 0, .slice none 0 0] :: box b7 64 [.slice Bf (fxB k).fits.length kf, .slice Ba s.am.length ka, .slice Bd s.dy.length kd, .slice Bn s.nd.length kn, .slice Bu (fxB k).due.length ku, .slice Bb s.br.length kb] :: box b5 27 [.int .i64 k.known, .slice As k.sups.length cs, .slice Ar k.reqs.length cr, .slice Af k.fits.length cf, .slice Ad k.reads cd] :: F⟩)
    (fun y => y.1 ≤ j ∧ y.2 = (l.take y.1).foldl shipF (beginF k) ∧ (y.2.am.length = k.sups.length ∧ y.2.nd.length = k.reqs.length) ∧ Rg y.1 y.2.am ∧ Rg y.1 y.2.nd) (fun y => j - y.1) (0, beginF k) ⟨Nat.zero_le _, rfl, ⟨m1, m2⟩, fun a ha => by have := hfb2.amr a ha; show -((0 : Int) * 1048576) ≤ a ∧ _; omega, fun a ha => by have := hfb2.ndr a ha; show -((0 : Int) * 1048576) ≤ a ∧ _; omega⟩ hsQ (fun y hy => ?_)
  obtain ⟨i, t⟩ := y
  obtain ⟨hi, ht, ⟨ht1, ht2⟩, ht3, ht4⟩ := hy
  dsimp only at hi ht ht1 ht2 ht3 ht4
  dsimp only
  by_cases hlt : i < j
  · obtain ⟨h, hh⟩ := get_of_lt (xs := l) (i := i) (by omega)
    have hokh := hok h (List.mem_of_getElem? hh)
    have hamth := hamt h (List.mem_of_getElem? hh)
    have hstep := foldl_take shipF l (beginF k) hh
    rw [← ht] at hstep
    obtain ⟨hA, ch, hat, rfl⟩ := hl.elem hh
    obtain ⟨kd, sup, req, day, amt⟩ := h
    obtain ⟨⟨o1, o2⟩, o3⟩ := hokh
    simp only at o1 o2 o3 hamth hat
    by_cases hk : kd = 3
    · subst hk
      have ho4 : 0 ≤ req ∧ req < (k.reqs.length : Int) := by rcases o3 with o | o | o <;> omega
      have hamt2 := hamth (by omega)
      obtain ⟨u, rfl⟩ : ∃ u : Nat, sup = (u : Int) := ⟨sup.toNat, by omega⟩
      obtain ⟨q, rfl⟩ : ∃ q : Nat, req = (q : Int) := ⟨req.toNat, by omega⟩
      obtain ⟨a, ha⟩ := get_of_lt (xs := t.am) (i := u) (by omega)
      obtain ⟨n, hn⟩ := get_of_lt (xs := t.nd) (i := q) (by omega)
      have hra := ht3 a (List.mem_of_getElem? ha)
      have hrn := ht4 n (List.mem_of_getElem? hn)
      have hav : (intV t.am)[(u : Int).toNat]? = some (.int .i64 a) := by rw [Int.toNat_natCast]; exact intV_get ha
      have hnv : (intV t.nd)[(q : Int).toNat]? = some (.int .i64 n) := by rw [Int.toNat_natCast]; exact intV_get hn
      rw [shipF_at ha hn] at hstep
      refine Tr.own_some A1 (e := 3) (sz := 1) (m := k.sups.length) (c := c1) (xs := intV t.am) (by repeat (first | exact Has.here | apply Has.there)) (by omega) (fun hA1 => ?_)
      refine Tr.own_some A3 (e := 3) (sz := 1) (m := k.reqs.length) (c := c3) (xs := intV t.nd) (by repeat (first | exact Has.here | apply Has.there)) (by omega) (fun hA3 => ?_)
      (repeat (first | ((with_reducible refine Tr.step rfl ?_); (first | ((with_reducible refine Knd.load ?_); (first | (refine xlQ (z := ?_)) | (refine Exec.stab rfl (Stab.loadMA rfl (tysOk.get rfl) rfl (by assumption) (by first | rfl | assumption)) rfl ?_))) | (refine xfQ (z := ?_)) | (refine xiQ (z := ?_)) | (refine xWQ (z := ?_)) | ((with_reducible refine Knd.alloc ?_); (refine Exec.alloc (tysOk.get rfl) rfl rfl (fun b => ?_))) | (refine xxQ (z := ?_)))) | (with_reducible first | apply Tr.next | apply Tr.seq | apply Tr.region | apply Tr.nil | apply Tr.skip | apply Tr.block) | (refine Tr.cond_t rfl (by first | (with_reducible assumption) | (with_reducible rfl) | omega) ?_)))
      (((apply Tr.draw); (kernel_rfl)); (refine tkQ 0 (hB := by exact fun _ h => h) (s := by exact sfQ) (h := ?_)); (refine tkQ 2 (s := by exact sfQ) (h := ?_)); (refine tkQ 6 (s := by exact sfQ) (h := ?_)); (refine tkQ 1 (s := by exact slQ) (h := ?_)); (refine tkQ 3 (s := by exact slQ) (h := ?_)); (refine tkQ 7 (s := by exact slQ) (h := ?_)); (refine tkQ 4 (s := by exact sxQ) (h := ?_)); (refine tkQ 5 (s := by exact Stab.loadO rfl (tysOk.get rfl) rfl (by repeat (first | exact Has.here | apply Has.there)) (by assumption)) (h := ?_)); (refine tkQ 8 (s := by exact Stab.subi rfl rfl (by omega)) (h := ?_)); (refine tkQ 9 (s := by exact sxQ) (h := ?_)); (refine TrA.effD 10 rfl (by kernel_rfl) (by kernel_rfl) (by exact .inl rfl) ?_); (((refine Knd.store ?_); ((refine Exec.storeO rfl rfl (tysOk.get rfl) rfl (by first | rfl | assumption) (by repeat (first | exact Upd.here | apply Upd.there)) (by omega) ?_)))); (refine ⟨_, fun _ h => h, ?_⟩); (refine TrA.done (by kernel_rfl) ?_))
      rw [Int.toNat_natCast u, intV_set]
      (repeat ((with_reducible refine Tr.next ?_)))
      (((apply Tr.draw); (kernel_rfl)); (refine tkQ 0 (hB := by exact fun _ h => h) (s := by exact sfQ) (h := ?_)); (refine tkQ 2 (s := by exact sfQ) (h := ?_)); (refine tkQ 6 (s := by exact sfQ) (h := ?_)); (refine tkQ 1 (s := by exact slQ) (h := ?_)); (refine tkQ 3 (s := by exact slQ) (h := ?_)); (refine tkQ 7 (s := by exact slQ) (h := ?_)); (refine tkQ 4 (s := by exact sxQ) (h := ?_)); (refine tkQ 5 (s := by exact Stab.loadO rfl (tysOk.get rfl) rfl (by repeat (first | exact Has.here | apply Has.there)) (by assumption)) (h := ?_)); (refine tkQ 8 (s := by exact Stab.subi rfl rfl (by omega)) (h := ?_)); (refine tkQ 9 (s := by exact sxQ) (h := ?_)); (refine TrA.effD 10 rfl (by kernel_rfl) (by kernel_rfl) (by exact .inl rfl) ?_); (((refine Knd.store ?_); ((refine Exec.storeO rfl rfl (tysOk.get rfl) rfl (by first | rfl | assumption) (by repeat (first | exact Upd.here | apply Upd.there)) (by omega) ?_)))); (refine ⟨_, fun _ h => h, ?_⟩); (refine TrA.done (by kernel_rfl) ?_))
      rw [Int.toNat_natCast q, intV_set]
      (repeat (first | ((with_reducible refine Tr.step rfl ?_); (first | (refine xmQ (z := ?_)) | (refine xdQ (z := ?_)))) | (with_reducible first | apply Tr.next | apply Tr.region | apply Tr.nil | apply Tr.in_normal)))
      refine gvQ (r := box b _ _) (k := ?_)
      exact Tr.again (i + 1, { t with am := t.am.set u (a - amt), nd := t.nd.set q (n - amt) }) ⟨by simp only; omega, hstep.symm, ⟨by simp only [List.length_set]; omega, by simp only [List.length_set]; omega⟩, ht3.set (List.mem_of_getElem? ha) hamt2 u, ht4.set (List.mem_of_getElem? hn) hamt2 q⟩ (by simp only; omega) hsQ
    · rw [shipF, if_neg (show ¬ kd = 3 from hk)] at hstep
      (repeat (first | ((with_reducible refine Tr.step rfl ?_); (first | (refine xmQ (z := ?_)) | ((with_reducible refine Knd.load ?_); (first | (refine xlQ (z := ?_)) | (refine Exec.stab rfl (Stab.loadMA rfl (tysOk.get rfl) rfl (by assumption) (by first | rfl | assumption)) rfl ?_))) | (refine xfQ (z := ?_)) | ((with_reducible refine Knd.binOp ?_); (first | (refine xdQ (z := ?_)) | (refine xiQ (z := ?_)))) | (refine xWQ (z := ?_)) | ((with_reducible refine Knd.alloc ?_); (refine Exec.alloc (tysOk.get rfl) rfl rfl (fun b => ?_))) | (refine xxQ (z := ?_)))) | (with_reducible first | apply Tr.next | apply Tr.seq | apply Tr.region | apply Tr.nil | apply Tr.skip | apply Tr.block | apply Tr.in_normal) | (refine Tr.cond_t rfl (by first | (with_reducible assumption) | omega) ?_) | (refine Tr.cond_f rfl (by (with_reducible assumption)) ?_)))
      refine gvQ (r := box b _ _) (k := ?_)
      exact Tr.again (i + 1, t) ⟨by simp only; omega, hstep.symm, ⟨ht1, ht2⟩, ht3.next, ht4.next⟩ (by simp only; omega) hsQ
  have ei : j = i := by omega
  subst ei
  (repeat (first | ((with_reducible refine Tr.step rfl ?_); (first | (refine xmQ (z := ?_)) | (refine xnQ (z := ?_)) | (refine xiQ (z := ?_)))) | (with_reducible first | apply Tr.next | apply Tr.seq | apply Tr.region | apply Tr.nil | apply Tr.block | apply Tr.exit | apply Tr.then_exit) | ((with_reducible refine Tr.in_exit ?_ ?_); (exact rfl)) | (refine Tr.cond_f rfl (by first | (with_reducible assumption) | omega) ?_)))
  clear hi
  have htd : t.dy = (beginF k).dy := by rw [ht]; exact (ships_eff (l.take j) (beginF k) (fun z hz => by rw [m1, m2]; exact hok z (List.mem_of_mem_take hz))).2.1
  rw [← htd]
  refine Tr.loop (α := Nat × St) (fun y => ⟨113, [(55, .int .i64 (y.1 : Int)), (54, .int .i64 (idx.length : Int)), (53, .slice Ai idx.length ci), (11, .pointer (some ⟨b11, 0, none⟩)), (10, .pointer (some ⟨b10, 0, none⟩)), (7, .pointer (some ⟨b7, 0, none⟩)), (1, .slice A l.length c), (3, .int .i64 (j : Int)), (4, .slice Ai idx.length ci)], [], M,
      box b11 64 [.slice Af2 k.fits.length cf2, .slice A1 k.sups.length c1, .slice A2 k.sups.length c2, .slice A3 k.reqs.length c3, .slice A4 k.reqs.length c4, .slice A5 k.reqs.length c5] :: ownS 3 1 A3 k.reqs.length c3 (intV t.nd) :: ownS 3 1 A4 k.reqs.length c4 (intV (fxB k).due) :: ownS 3 1 A5 k.reqs.length c5 (intV (beginF k).br) :: ownS 3 1 A1 k.sups.length c1 (intV y.2.am) :: ownS 3 1 A2 k.sups.length c2 (intV y.2.dy) ::
      box b10 64 [.slice none 0 0, .slice none 0 0, .slice none 0 0, .slice none 0 0, .slice none 0 0, .slice none 0 0] :: box b7 64 [.slice Bf (fxB k).fits.length kf, .slice Ba s.am.length ka, .slice Bd s.dy.length kd, .slice Bn s.nd.length kn, .slice Bu (fxB k).due.length ku, .slice Bb s.br.length kb] :: box b5 27 [.int .i64 k.known, .slice As k.sups.length cs, .slice Ar k.reqs.length cr, .slice Af k.fits.length cf, .slice Ad k.reads cd] :: F⟩)
    (fun y => y.1 ≤ idx.length ∧ y.2 = ((idx.map fun u => l.getD u zH).take y.1).foldl lossF t ∧ (y.2.am.length = k.sups.length ∧ y.2.dy.length = k.sups.length ∧ y.2.nd = t.nd) ∧ Rg (j + y.1) y.2.am) (fun y => idx.length - y.1) (0, t) ⟨Nat.zero_le _, rfl, ⟨ht1, by show t.dy.length = _; rw [htd]; exact m3, rfl⟩, ht3⟩ hsQ (fun y hy => ?_)
  obtain ⟨i, t2⟩ := y
  obtain ⟨hi, he, ⟨he1, he2, he4⟩, he3⟩ := hy
  dsimp only at hi he he1 he2 he3 he4
  dsimp only
  by_cases hlt2 : i < idx.length
  · obtain ⟨w, hw⟩ := get_of_lt (xs := idx) (i := i) (by omega)
    obtain ⟨hwl, hw3⟩ := hidx w (List.mem_of_getElem? hw)
    obtain ⟨h, hh⟩ := get_of_lt (xs := l) (i := w) hwl
    rw [getD_of (d := zH) hh] at hw3
    have hokh := hok h (List.mem_of_getElem? hh)
    have hamth := hamt h (List.mem_of_getElem? hh)
    have hstep := foldl_take lossF (idx.map fun u => l.getD u zH) t (map_take1 (fun u => l.getD u zH) hw)
    rw [← he, getD_of (d := zH) hh] at hstep
    obtain ⟨hAx, hatx⟩ := Ints.at hx (nats__get hw)
    obtain ⟨hA, ch, hat, rfl⟩ := hl.elem hh
    obtain ⟨kd, sup, req, day, amt⟩ := h
    obtain ⟨⟨o1, o2⟩, o3⟩ := hokh
    simp only at o1 o2 o3 hamth hat hw3
    obtain ⟨u, rfl⟩ : ∃ u : Nat, sup = (u : Int) := ⟨sup.toNat, by omega⟩
    obtain ⟨a, ha⟩ := get_of_lt (xs := t2.am) (i := u) (by omega)
    obtain ⟨n, hn⟩ := get_of_lt (xs := t2.dy) (i := u) (by omega)
    have hra := he3 a (List.mem_of_getElem? ha)
    have hav : (intV t2.am)[(u : Int).toNat]? = some (.int .i64 a) := by rw [Int.toNat_natCast]; exact intV_get ha
    have hnv : (intV t2.dy)[(u : Int).toNat]? = some (.int .i64 n) := by rw [Int.toNat_natCast]; exact intV_get hn
    refine Tr.own_some A1 (e := 3) (sz := 1) (m := k.sups.length) (c := c1) (xs := intV t2.am) (by repeat (first | exact Has.here | apply Has.there)) (by omega) (fun hA1 => ?_)
    refine Tr.own_some A2 (e := 3) (sz := 1) (m := k.sups.length) (c := c2) (xs := intV t2.dy) (by repeat (first | exact Has.here | apply Has.there)) (by omega) (fun hA3 => ?_)
    by_cases hk : kd = 1
    · subst hk
      have hamt2 := hamth (by omega)
      rw [lossF_lose ha] at hstep
      (repeat (first | ((with_reducible refine Tr.step rfl ?_); (first | (refine xmQ (z := ?_)) | (refine xaQ (z := ?_)) | ((with_reducible refine Knd.load ?_); (first | (refine xlQ (z := ?_)) | (refine xMQ (z := ?_)) | (refine Exec.stab rfl (Stab.loadMA rfl (tysOk.get rfl) rfl (by assumption) (by first | rfl | assumption)) rfl ?_))) | (refine xfQ (z := ?_)) | (refine xiQ (z := ?_)) | (refine xWQ (z := ?_)) | ((with_reducible refine Knd.alloc ?_); (refine Exec.alloc (tysOk.get rfl) rfl rfl (fun b => ?_))) | (refine xxQ (z := ?_)))) | (with_reducible first | apply Tr.next | apply Tr.seq | apply Tr.region | apply Tr.nil | apply Tr.skip | apply Tr.block) | (refine Tr.cond_t rfl (by first | (with_reducible assumption) | (with_reducible rfl) | omega) ?_)))
      (((apply Tr.draw); (kernel_rfl)); (refine tkQ 0 (hB := by exact fun _ h => h) (s := by exact sfQ) (h := ?_)); (refine tkQ 2 (s := by exact sfQ) (h := ?_)); (refine tkQ 6 (s := by exact sfQ) (h := ?_)); (refine tkQ 1 (s := by exact slQ) (h := ?_)); (refine tkQ 3 (s := by exact slQ) (h := ?_)); (refine tkQ 7 (s := by exact slQ) (h := ?_)); (refine tkQ 4 (s := by exact sxQ) (h := ?_)); (refine tkQ 5 (s := by exact Stab.loadO rfl (tysOk.get rfl) rfl (by repeat (first | exact Has.here | apply Has.there)) (by assumption)) (h := ?_)); (refine tkQ 8 (s := by exact Stab.subi rfl rfl (by omega)) (h := ?_)); (refine tkQ 9 (s := by exact sxQ) (h := ?_)); (refine TrA.effD 10 rfl (by kernel_rfl) (by kernel_rfl) (by exact .inl rfl) ?_); (((refine Knd.store ?_); ((refine Exec.storeO rfl rfl (tysOk.get rfl) rfl (by first | rfl | assumption) (by repeat (first | exact Upd.here | apply Upd.there)) (by omega) ?_)))); (refine ⟨_, fun _ h => h, ?_⟩); (refine TrA.done (by kernel_rfl) ?_))
      rw [Int.toNat_natCast u, intV_set]
      (repeat (first | ((with_reducible refine Tr.step rfl ?_); (first | (refine xmQ (z := ?_)) | (refine xdQ (z := ?_)))) | (with_reducible first | apply Tr.next | apply Tr.region | apply Tr.nil | apply Tr.in_normal)))
      refine gvQ (r := box b _ _) (k := ?_)
      exact Tr.again (i + 1, { t2 with am := t2.am.set u (a - amt) }) ⟨by simp only; omega, hstep.symm, ⟨by simp only [List.length_set]; omega, he2, he4⟩, by have := he3.set (List.mem_of_getElem? ha) hamt2 u; exact this⟩ (by simp only; omega) hsQ
    · rw [lossF_late hk hn] at hstep
      (repeat (first | ((with_reducible refine Tr.step rfl ?_); (first | (refine xmQ (z := ?_)) | (refine xaQ (z := ?_)) | ((with_reducible refine Knd.load ?_); (first | (refine xlQ (z := ?_)) | (refine xMQ (z := ?_)) | (refine Exec.stab rfl (Stab.loadMA rfl (tysOk.get rfl) rfl (by assumption) (by first | rfl | assumption)) rfl ?_))) | (refine xfQ (z := ?_)) | (refine xiQ (z := ?_)) | (refine xWQ (z := ?_)) | ((with_reducible refine Knd.alloc ?_); (refine Exec.alloc (tysOk.get rfl) rfl rfl (fun b => ?_))) | (refine xxQ (z := ?_)))) | (with_reducible first | apply Tr.next | apply Tr.seq | apply Tr.region | apply Tr.nil | apply Tr.skip | apply Tr.block) | (refine Tr.cond_t rfl (by first | (with_reducible assumption) | omega) ?_) | (refine Tr.cond_f rfl (by (with_reducible assumption)) ?_)))
      (((apply Tr.draw); (kernel_rfl)); (refine tkQ 0 (hB := by exact fun _ h => h) (s := by exact sfQ) (h := ?_)); (refine tkQ 2 (s := by exact sfQ) (h := ?_)); (refine tkQ 4 (s := by exact sfQ) (h := ?_)); (refine tkQ 6 (s := by exact sfQ) (h := ?_)); (refine tkQ 10 (s := by exact sfQ) (h := ?_)); (refine tkQ 1 (s := by exact slQ) (h := ?_)); (refine tkQ 3 (s := by exact slQ) (h := ?_)); (refine tkQ 5 (s := by exact slQ) (h := ?_)); (refine tkQ 7 (s := by exact slQ) (h := ?_)); (refine tkQ 11 (s := by exact slQ) (h := ?_)); (refine tkQ 8 (s := by exact sxQ) (h := ?_)); (refine tkQ 9 (s := by exact Stab.loadO rfl (tysOk.get rfl) rfl (by repeat (first | exact Has.here | apply Has.there)) (by assumption)) (h := ?_)); (refine tkQ 12 (s := by exact Stab.max2 rfl rfl) (h := ?_)); (refine tkQ 13 (s := by exact sxQ) (h := ?_)); (refine TrA.effD 14 rfl (by kernel_rfl) (by kernel_rfl) (by exact .inl rfl) ?_); (((refine Knd.store ?_); ((refine Exec.storeO rfl rfl (tysOk.get rfl) rfl (by first | rfl | assumption) (by repeat (first | exact Upd.here | apply Upd.there)) (by omega) ?_)))); (refine ⟨_, fun _ h => h, ?_⟩); (refine TrA.done (by kernel_rfl) ?_))
      rw [Int.toNat_natCast u, intV_set]
      (repeat (first | ((with_reducible refine Tr.step rfl ?_); (first | (refine xmQ (z := ?_)) | (refine xdQ (z := ?_)))) | (with_reducible first | apply Tr.next | apply Tr.region | apply Tr.nil | apply Tr.in_normal)))
      refine gvQ (r := box b _ _) (k := ?_)
      exact Tr.again (i + 1, { t2 with dy := t2.dy.set u (max n day) }) ⟨by simp only; omega, hstep.symm, ⟨he1, by simp only [List.length_set]; omega, he4⟩, he3.next⟩ (by simp only; omega) hsQ
  have ei : idx.length = i := by omega
  subst ei
  rw [List.take_of_length_le (by simp)] at he
  have hbr0 : (beginF k).br = (brB s.br j).take 0 ++ List.replicate (k.reqs.length - 0) (-1) := by
    rw [List.take_zero, List.nil_append, Nat.sub_zero]
    exact List.map_const' ..
  rw [hbr0]
  clear hx hl
  (repeat (first | ((with_reducible refine Tr.step rfl ?_); (first | (refine xmQ (z := ?_)) | (refine xlQ (z := ?_)) | (refine xfQ (z := ?_)) | (refine xnQ (z := ?_)) | (refine xiQ (z := ?_)))) | (with_reducible first | apply Tr.next | apply Tr.seq | apply Tr.region | apply Tr.nil | apply Tr.block | apply Tr.exit | apply Tr.then_exit) | ((with_reducible refine Tr.in_exit ?_ ?_); (exact rfl)) | (refine Tr.cond_f rfl (by first | (with_reducible assumption) | omega) ?_)))
  refine Tr.loop (α := Nat) (fun y => ⟨113, [(94, .int .i64 (y : Int)), (93, .int .i64 (s.br.length : Int)), (92, .slice Bb s.br.length kb), (11, .pointer (some ⟨b11, 0, none⟩)), (10, .pointer (some ⟨b10, 0, none⟩)), (3, .int .i64 (j : Int))], [], M,
      box b11 64 [.slice Af2 k.fits.length cf2, .slice A1 k.sups.length c1, .slice A2 k.sups.length c2, .slice A3 k.reqs.length c3, .slice A4 k.reqs.length c4, .slice A5 k.reqs.length c5] :: ownS 3 1 A3 k.reqs.length c3 (intV t.nd) :: ownS 3 1 A4 k.reqs.length c4 (intV (fxB k).due) :: ownS 3 1 A5 k.reqs.length c5 (intV ((brB s.br j).take y ++ List.replicate (k.reqs.length - y) (-1))) :: ownS 3 1 A1 k.sups.length c1 (intV t2.am) :: ownS 3 1 A2 k.sups.length c2 (intV t2.dy) ::
      box b10 64 [.slice none 0 0, .slice none 0 0, .slice none 0 0, .slice none 0 0, .slice none 0 0, .slice none 0 0] :: box b7 64 [.slice Bf (fxB k).fits.length kf, .slice Ba s.am.length ka, .slice Bd s.dy.length kd, .slice Bn s.nd.length kn, .slice Bu (fxB k).due.length ku, .slice Bb s.br.length kb] :: box b5 27 [.int .i64 k.known, .slice As k.sups.length cs, .slice Ar k.reqs.length cr, .slice Af k.fits.length cf, .slice Ad k.reads cd] :: F⟩)
    (fun y => y ≤ k.reqs.length) (fun y => k.reqs.length - y) 0 (Nat.zero_le _) hsQ (fun i hi => ?_)
  by_cases hlt3 : i < k.reqs.length
  · obtain ⟨a, ha⟩ := get_of_lt (xs := s.br) (i := i) (by omega)
    obtain ⟨hAb, hatb⟩ := Ints.at q6 ha
    have hnx := brI_next (j := j) n4 ha
    by_cases h0 : 0 ≤ a
    · by_cases hj2 : a < (j : Int)
      · rw [if_pos ⟨h0, hj2⟩] at hnx
        refine Tr.own_some A5 (e := 3) (sz := 1) (m := k.reqs.length) (c := c5) (by repeat (first | exact Has.here | apply Has.there)) (by omega) (fun hA5 => ?_)
        (repeat (first | ((with_reducible refine Tr.step rfl ?_); (first | (refine xmQ (z := ?_)) | (refine xaQ (z := ?_)) | ((with_reducible refine Knd.load ?_); (first | (refine xlQ (z := ?_)) | (refine xMQ (z := ?_)))) | (refine xfQ (z := ?_)) | ((with_reducible refine Knd.binOp ?_); (first | (refine xdQ (z := ?_)) | (refine xiQ (z := ?_)))) | ((with_reducible refine Knd.pick ?_); (refine Exec.stab rfl (Stab.pick_td rfl (by (with_reducible assumption)) rfl) rfl ?_)) | ((with_reducible refine Knd.store ?_); (refine Exec.storeO rfl rfl (tysOk.get rfl) rfl (by first | rfl | assumption) (by repeat (first | exact Upd.here | apply Upd.there)) (by omega) ?_)) | (refine xxQ (z := ?_)))) | (with_reducible first | apply Tr.next | apply Tr.seq | apply Tr.region | apply Tr.nil) | ((refine Tr.guard_y rfl rfl rfl (by (with_reducible assumption)) ?_); (first | (refine xmQ (z := ?_)) | (refine xiQ (z := ?_)))) | (with_reducible first | apply Tr.skip | apply Tr.block | apply Tr.in_normal) | (refine Tr.cond_t rfl (by first | (with_reducible assumption) | omega) ?_)))
        rw [Int.toNat_natCast i, intV_set, hnx]
        exact Tr.again (i + 1) (by omega) (by omega) hsQ
      · rw [if_neg (fun h => hj2 h.2)] at hnx
        have hsame : ((brB s.br j).take i ++ List.replicate (k.reqs.length - i) (-1 : Int)) = (brB s.br j).take (i + 1) ++ List.replicate (k.reqs.length - (i + 1)) (-1) := by
          rw [← hnx, set_same (by rw [List.getElem?_append_right (by rw [List.length_take, brB_length]; omega), List.length_take, brB_length, Nat.min_eq_left (by omega), Nat.sub_self, List.getElem?_replicate, if_pos (by omega)])]
        rw [hsame]
        (repeat (first | ((with_reducible refine Tr.step rfl ?_); (first | (refine xmQ (z := ?_)) | (refine xaQ (z := ?_)) | (refine xMQ (z := ?_)) | ((with_reducible refine Knd.binOp ?_); (first | (refine xdQ (z := ?_)) | (refine xiQ (z := ?_)))) | ((with_reducible refine Knd.pick ?_); (refine Exec.stab rfl (Stab.pick_td rfl (by (with_reducible assumption)) rfl) rfl ?_)) | (refine xxQ (z := ?_)))) | (with_reducible first | apply Tr.next | apply Tr.seq | apply Tr.region | apply Tr.nil) | ((refine Tr.guard_y rfl rfl rfl (by (with_reducible assumption)) ?_); (first | (refine xmQ (z := ?_)) | (refine xiQ (z := ?_)))) | (with_reducible first | apply Tr.skip | apply Tr.block | apply Tr.in_normal) | (refine Tr.cond_t rfl (by first | (with_reducible assumption) | omega) ?_) | (refine Tr.cond_f rfl (by (with_reducible assumption)) ?_)))
        exact Tr.again (i + 1) (by omega) (by omega) hsQ
    · rw [if_neg (fun h => h0 h.1)] at hnx
      have hsame : ((brB s.br j).take i ++ List.replicate (k.reqs.length - i) (-1 : Int)) = (brB s.br j).take (i + 1) ++ List.replicate (k.reqs.length - (i + 1)) (-1) := by
        rw [← hnx, set_same (by rw [List.getElem?_append_right (by rw [List.length_take, brB_length]; omega), List.length_take, brB_length, Nat.min_eq_left (by omega), Nat.sub_self, List.getElem?_replicate, if_pos (by omega)])]
      rw [hsame]
      (repeat (first | ((with_reducible refine Tr.step rfl ?_); (first | (refine xmQ (z := ?_)) | (refine xaQ (z := ?_)) | (refine xMQ (z := ?_)) | ((with_reducible refine Knd.binOp ?_); (first | (refine xdQ (z := ?_)) | (refine xiQ (z := ?_)))) | ((with_reducible refine Knd.pick ?_); (refine Exec.stab rfl (Stab.pick_fd rfl (by (with_reducible assumption)) rfl) rfl ?_)) | (refine xxQ (z := ?_)))) | (with_reducible first | apply Tr.next | apply Tr.seq | apply Tr.region | apply Tr.nil) | (refine Tr.guard_n rfl rfl rfl (by (with_reducible assumption)) rfl rfl ?_) | (with_reducible first | apply Tr.skip | apply Tr.block | apply Tr.in_normal) | (refine Tr.cond_bf rfl (by (with_reducible rfl)) ?_) | (refine Tr.cond_t rfl (by first | (with_reducible assumption) | omega) ?_)))
      exact Tr.again (i + 1) (by omega) (by omega) hsQ
  have ei : k.reqs.length = i := by omega
  subst ei
  rw [Nat.sub_self, List.replicate_zero, List.append_nil, List.take_of_length_le (by rw [brB_length]; omega)]
  refine pbQ (r := ownS 3 1 A3 _ _ _) (k := fun M1 hm1 ok1 => ?_)
  have i1 := Ints.ofOwn ok1 ht2.symm hc3
  refine pbQ (r := ownS 3 1 A4 _ _ _) (k := fun M2 hm2 ok2 => ?_)
  have i2 := Ints.ofOwn ok2 (by simp [fxB]) hc4
  refine pbQ (r := ownS 3 1 A5 _ _ _) (k := fun M3 hm3 ok3 => ?_)
  have i3 := Ints.ofOwn ok3 (by rw [brB_length]; omega) hc5
  refine pbQ (r := ownS 3 1 A1 _ _ _) (k := fun M4 hm4 ok4 => ?_)
  have i4 := Ints.ofOwn ok4 he1.symm hc1
  refine pbQ (r := ownS 3 1 A2 _ _ _) (k := fun M5 hm5 ok5 => ?_)
  have i5 := Ints.ofOwn ok5 he2.symm hc2
  have m45 := hm4.trans hm5
  have m35 := hm3.trans m45
  have m25 := hm2.trans m35
  have hlast := hm1.trans m25
  (repeat (first | ((with_reducible refine Tr.step rfl ?_); (first | (refine xwQ (z := ?_)) | (refine xiQ (z := ?_)) | (refine xWQ (z := ?_)))) | (with_reducible first | apply Tr.next | apply Tr.seq | apply Tr.region | apply Tr.nil | apply Tr.exit | apply Tr.ret | apply Tr.then_exit) | ((with_reducible refine Tr.in_exit ?_ ?_); (exact rfl)) | (refine Tr.cond_f rfl (by first | (with_reducible assumption) | omega) ?_)))
  (refine Tr.done (by first | exact .inl rfl | exact .inr rfl) rfl (by repeat (first | exact RVs.nil | (apply RVs.cons; (exact RV.cellW (by rfl) (tysOk.get (by rfl)) (by rfl) (by repeat (first | exact Has.here | apply Has.there)) (by first | rfl | assumption))))) (by first | exact Mem.le.refl _ | assumption) (by exact ⟨[_, _, _, _], rfl⟩) ⟨rfl, ?_⟩)
  have hw : withF k l s.br j idx = { t2 with br := brB s.br j } := by rw [withF, he, ht]
  rw [hw]
  refine ⟨Af2, cf2, A1, c1, A2, c2, A3, c3, A4, c4, A5, c5, ?_, hff.mono RRowB.mono hlast, i4.mono RI.mono hm5, i5, ?_, i2.mono RI.mono m35, i3.mono RI.mono m45⟩
  · show _ = Value.agg #[_, .slice _ t2.am.length _, .slice _ t2.dy.length _, .slice _ t2.nd.length _, .slice _ ((fxB k).due.length) _, .slice _ (brB s.br j).length _]
    rw [he1, he2, he4, ht2, brB_length, n4, show (fxB k).due.length = k.reqs.length by simp [fxB]]
    rfl
  · show Ints M5 (.slice A3 t2.nd.length c3) t2.nd
    rw [he4]
    exact i1.mono RI.mono m25
end Go.Proofs.Ytgnipfjjkliibaa

/-
  Honour: because.
  Conditions: none.
-/
namespace Go.Proofs.Ytgnipfjjkliibaa
open Go Bf
attribute [local irreducible] Tr Exec Stab HasTy Go.Addr.add IntKind.wrap
theorem notShip_next {l : List Hp} {i : Nat} : notShip l (i + 1) = notShip l i ++ (if (l.getD i zH).kind ≠ 3 then [i] else []) := by
  rw [notShip, List.range_succ, List.filter_append, notShip]
  congr 1
  by_cases h : (l.getD i zH).kind ≠ 3
  · rw [if_pos h, List.filter_cons_of_pos (by exact decide_eq_true h)]; rfl
  · rw [if_neg h, List.filter_cons_of_neg (by rw [decide_eq_true_iff]; exact h)]; rfl
theorem notShip_len (l : List Hp) (n : Nat) : (notShip l n).length ≤ n := by
  have := (notShip_sub l n).length_le
  rwa [List.length_range] at this
theorem nats__erase (l : List Nat) (i : Nat) : (nats_ l).eraseIdx i = nats_ (l.eraseIdx i) := by
  rw [nats_, nats_, List.eraseIdx_eq_take_drop_succ, List.eraseIdx_eq_take_drop_succ, List.map_append, List.map_take, List.map_drop]
theorem nats__mem {l : List Nat} {q : Nat} : (q : Int) ∈ nats_ l ↔ q ∈ l := by
  simp only [nats_, List.mem_map]
  constructor
  · rintro ⟨a, ha, e⟩
    have : a = q := by omega
    rwa [← this]
  · exact fun h => ⟨q, h, rfl⟩
set_option maxHeartbeats 16000000 in
theorem because_fn (M : Mem) (vb vs : Value) (k : Bk) (hB : RBk M vb k) (A : Option Addr) (c : Nat) (l : List Hp) (hl : SlOf 5 RHp M (.slice A l.length c) l) (s : St) (hS : RSt M vs (fxB k) s) (hrun : runF k l = some s) (q : Nat) (hq : q < k.reqs.length) (hbq : 0 ≤ s.br.getD q 0) (hll : l.length ≤ 1000) :
    Fn0 Try.prog 31 [vb, .slice A l.length c, vs, .int .i64 (q : Int)] M (fun r M' => ∃ A' c', r = .slice A' (becF k l s.br q).length c' ∧ Ints M' (.slice A' (becF k l s.br q).length c') (nats_ (becF k l s.br q))) := by
  have hB0 := hB
  have hS0 := hS
  obtain ⟨As, cs, Ar, cr, Af, cf, Ad, cd, rfl, h1, h2, h3⟩ := hB
  obtain ⟨Bf, kf, Ba, ka, Bd, kd, Bn, kn, Bu, ku, Bb, kb, rfl, q1, q2, q3, q4, q5, q6⟩ := hS
  obtain ⟨n1, n2, n3, n4⟩ := run_len hrun
  obtain ⟨hfb, -, -⟩ := run_keep hrun
  have hr64 := hfb.2.1
  obtain ⟨j, hjl, hj, hj3⟩ : ∃ j, j < l.length ∧ s.br.getD q 0 = (j : Int) ∧ (l.getD j zH).kind ≠ 3 := by
    rcases run_brk hrun hq with e | e
    · omega
    · exact e
  have hbec : becF k l s.br q = becL k l s.br j q (notShip l (j + 1)).length (notShip l (j + 1)) := by rw [becF, hj]; rfl
  obtain ⟨z, hz⟩ := get_of_lt (xs := s.br) (i := q) (by omega)
  obtain rfl : z = (j : Int) := by rw [getD_of (d := (0 : Int)) hz] at hj; exact hj
  obtain ⟨hAb, hatb⟩ := Ints.at q6 hz
  have hcl := hl.len_le
  obtain ⟨-, -, hlc, hc63, -⟩ := SlOf.cells hl
  refine Fn.intro Try.func31 rfl rfl Try.ntmps31 rfl fun E F => ?_
  (repeat (first | ((with_reducible refine Tr.step rfl ?_); (first | (refine xmQ (z := ?_)) | (refine xaQ (z := ?_)) | ((with_reducible refine Knd.load ?_); (first | (refine xlQ (z := ?_)) | (refine xMQ (z := ?_)))) | (refine xfQ (z := ?_)) | (refine xnQ (z := ?_)) | (refine xdQ (z := ?_)) | ((with_reducible refine Knd.box ?_); (refine Exec.box rfl rfl (fun b => ?_))) | (refine xxQ (z := ?_)) | ((with_reducible refine Knd.slice ?_); (refine Exec.stab rfl (Stab.slice_h rfl rfl (tysOk.get rfl) rfl (tysOk.get rfl) (by omega) (by omega)) rfl ?_)))) | (with_reducible first | apply Tr.next | apply Tr.seq | apply Tr.region | apply Tr.nil | apply Tr.block)))
  generalize b = b6
  rename_i b4
  refine Tr.own_nil 3 1 ?_
  have ej : ((j : Int) + 1).toNat = j + 1 := by omega
  rw [ej]
  refine Tr.loop (α := Nat × Option Addr × Nat) (fun y => ⟨65, [(25, .int .i64 (y.1 : Int)), (24, .int .i64 ((j + 1 : Nat) : Int)), (23, .slice A (j + 1) c), (9, .int .i64 (j : Int)), (8, .slice y.2.1 (notShip l y.1).length y.2.2), (6, .pointer (some ⟨b6, 0, none⟩)), (4, .pointer (some ⟨b4, 0, none⟩)), (1, .slice A l.length c), (3, .int .i64 (q : Int))], [], M,
      ownS 3 1 y.2.1 (notShip l y.1).length y.2.2 (intV (nats_ (notShip l y.1))) :: box b6 64 [.slice Bf (fxB k).fits.length kf, .slice Ba s.am.length ka, .slice Bd s.dy.length kd, .slice Bn s.nd.length kn, .slice Bu (fxB k).due.length ku, .slice Bb s.br.length kb] :: box b4 27 [.int .i64 k.known, .slice As k.sups.length cs, .slice Ar k.reqs.length cr, .slice Af k.fits.length cf, .slice Ad k.reads cd] :: ([] ++ F)⟩)
    (fun y => y.1 ≤ j + 1 ∧ y.2.2 ≤ 9223372036854775807) (fun y => j + 1 - y.1) (0, none, 0) ⟨Nat.zero_le _, by show (0 : Nat) ≤ _; omega⟩ hsQ (fun y hy => ?_)
  obtain ⟨i, A1, c1⟩ := y
  obtain ⟨hi, hc1⟩ := hy
  dsimp only at hi hc1
  dsimp only
  by_cases hlt : i < j + 1
  · obtain ⟨h, hh⟩ := get_of_lt (xs := l) (i := i) (by omega)
    obtain ⟨hA, ch, hat, rfl⟩ := hl.elem hh
    have hnx := notShip_next (l := l) (i := i)
    rw [getD_of (d := zH) hh] at hnx
    have hnl := notShip_len l i
    by_cases hk : h.kind ≠ 3
    · rw [if_pos hk] at hnx
      (repeat (first | ((with_reducible refine Tr.step rfl ?_); (first | (refine xmQ (z := ?_)) | (refine xaQ (z := ?_)) | ((with_reducible refine Knd.load ?_); (first | (refine xlQ (z := ?_)) | (refine Exec.stab rfl (Stab.loadMA rfl (tysOk.get rfl) rfl (by assumption) (by first | rfl | assumption)) rfl ?_))) | (refine xfQ (z := ?_)) | (refine xiQ (z := ?_)) | (refine xWQ (z := ?_)) | ((with_reducible refine Knd.alloc ?_); (refine Exec.alloc (tysOk.get rfl) rfl rfl (fun b => ?_))) | (refine xxQ (z := ?_)) | ((with_reducible refine Knd.buildSlice ?_); (refine Exec.buildSlice (tysOk.get rfl) rfl (tysOk.get rfl) rfl rfl rfl rfl rfl (by repeat (first | exact BuildP.nil | ((apply BuildP.one); (rfl); (rfl); (first | rfl | assumption); (repeat (first | exact SetL.z | apply SetL.s))))) rfl (fun b => ?_))))) | (with_reducible first | apply Tr.next | apply Tr.seq | apply Tr.region | apply Tr.nil | apply Tr.skip | apply Tr.block) | (refine Tr.cond_t rfl (by first | (with_reducible assumption) | omega) ?_)))
      rename_i b11
      ((refine Tr.step rfl ?_))
      refine Exec.append (news := [.int .i64 (i : Int)]) rfl rfl (tysOk.get rfl) rfl (tysOk.get rfl) rfl rfl rfl rfl (by repeat (first | exact Del.here | apply Del.there)) (Src.box (by repeat (first | exact Has.here | apply Has.there))) rfl (by intro u hu; simp at hu; subst hu; rfl) (by omega) (by omega) rfl (fun A2 c2 hc2 => ?_)
      refine gvQ (r := box b 3 _) (k := ?_)
      rw [show intV (nats_ (notShip l i)) ++ [Value.int .i64 (i : Int)] = intV (nats_ (notShip l (i + 1))) by rw [hnx, nats__snoc, intV_append]; rfl, show (notShip l i).length + 1 = (notShip l (i + 1)).length by rw [hnx, List.length_append]; rfl]
      (repeat (first | ((with_reducible refine Tr.step rfl ?_); (first | (refine xmQ (z := ?_)) | (refine xaQ (z := ?_)) | (refine xdQ (z := ?_)))) | (with_reducible first | apply Tr.next | apply Tr.region | apply Tr.nil | apply Tr.in_normal)))
      refine gvQ (r := box b11 _ _) (k := ?_)
      exact Tr.again (i + 1, A2, c2) ⟨by simp only; omega, hc2⟩ (by simp only; omega) hsQ
    · rw [if_neg hk, List.append_nil] at hnx
      rw [← hnx]
      have hk3 : h.kind = 3 := Classical.not_not.1 hk
      (repeat (first | ((with_reducible refine Tr.step rfl ?_); (first | (refine xmQ (z := ?_)) | (refine xaQ (z := ?_)) | ((with_reducible refine Knd.load ?_); (first | (refine xlQ (z := ?_)) | (refine Exec.stab rfl (Stab.loadMA rfl (tysOk.get rfl) rfl (by assumption) (by first | rfl | assumption)) rfl ?_))) | (refine xfQ (z := ?_)) | ((with_reducible refine Knd.binOp ?_); (first | (refine xdQ (z := ?_)) | (refine xiQ (z := ?_)))) | (refine xWQ (z := ?_)) | ((with_reducible refine Knd.alloc ?_); (refine Exec.alloc (tysOk.get rfl) rfl rfl (fun b => ?_))) | (refine xxQ (z := ?_)))) | (with_reducible first | apply Tr.next | apply Tr.seq | apply Tr.region | apply Tr.nil | apply Tr.skip | apply Tr.block | apply Tr.in_normal) | (refine Tr.cond_t rfl (by first | (with_reducible assumption) | omega) ?_) | (refine Tr.cond_f rfl (by (with_reducible assumption)) ?_)))
      refine gvQ (r := box b _ _) (k := ?_)
      exact Tr.again (i + 1, A1, c1) ⟨by simp only; omega, hc1⟩ (by simp only; omega) hsQ
  have ei : j + 1 = i := by omega
  subst ei
  refine pbQ (r := ownS 3 1 A1 _ _ _) (k := fun M1 hm1 ok1 => ?_)
  have i1 := Ints.ofOwn ok1 (by rw [nats__length]) hc1
  rw [nats__length] at i1
  have hnl := notShip_len l (j + 1)
  rw [hbec]
  clear ok1 hbec
  have hsub0 := notShip_sub l (j + 1)
  have hns0 : ∀ t ∈ notShip l (j + 1), (l.getD t zH).kind ≠ 3 := fun t ht => (notShip_mem.1 ht).2
  generalize notShip l (j + 1) = l0 at i1 hnl hsub0 hns0
  (repeat (first | ((with_reducible refine Tr.step rfl ?_); (first | (refine xmQ (z := ?_)) | (refine xaQ (z := ?_)) | (refine xnQ (z := ?_)) | ((with_reducible refine Knd.binOp ?_); (first | (refine Exec.stab rfl (Stab.subi rfl rfl (by omega)) rfl ?_) | (refine xiQ (z := ?_)))))) | (with_reducible first | apply Tr.next | apply Tr.seq | apply Tr.region | apply Tr.nil | apply Tr.block | apply Tr.exit | apply Tr.then_exit) | ((with_reducible refine Tr.in_exit ?_ ?_); (exact rfl)) | (refine Tr.cond_f rfl (by first | (with_reducible assumption) | omega) ?_)))
  refine Tr.loop (α := Nat × Mem × Option Addr × Nat × List Nat) (fun y => ⟨65, [(12, .int .i64 ((y.1 : Int) - 1)), (9, .int .i64 (j : Int)), (8, .slice y.2.2.1 y.2.2.2.2.length y.2.2.2.1), (6, .pointer (some ⟨b6, 0, none⟩)), (4, .pointer (some ⟨b4, 0, none⟩)), (1, .slice A l.length c), (3, .int .i64 (q : Int))], [], y.2.1,
      box b6 64 [.slice Bf (fxB k).fits.length kf, .slice Ba s.am.length ka, .slice Bd s.dy.length kd, .slice Bn s.nd.length kn, .slice Bu (fxB k).due.length ku, .slice Bb s.br.length kb] :: box b4 27 [.int .i64 k.known, .slice As k.sups.length cs, .slice Ar k.reqs.length cr, .slice Af k.fits.length cf, .slice Ad k.reads cd] :: ([] ++ F)⟩)
    (fun y => y.1 ≤ y.2.2.2.2.length ∧ Mem.le M y.2.1 ∧ Ints y.2.1 (.slice y.2.2.1 y.2.2.2.2.length y.2.2.2.1) (nats_ y.2.2.2.2) ∧ (y.2.2.2.2.Sublist (List.range (j + 1)) ∧ (∀ t ∈ y.2.2.2.2, (l.getD t zH).kind ≠ 3)) ∧ becL k l s.br j q y.1 y.2.2.2.2 = becL k l s.br j q l0.length l0) (fun y => y.1)
    (l0.length, M1, A1, c1, l0) ⟨Nat.le_refl _, hm1, i1, ⟨hsub0, hns0⟩, rfl⟩ hsQ (fun y hy => ?_)
  clear hm1 i1
  obtain ⟨i, M2, A2, c2, left⟩ := y
  obtain ⟨hi, hm2, hx, ⟨hsub, hns⟩, hbl⟩ := hy
  dsimp only at hi hm2 hx hsub hns hbl
  dsimp only
  have hlen : left.length ≤ j + 1 := by have := hsub.length_le; rwa [List.length_range] at this
  cases i with
  | zero =>
    rw [show (((0 : Nat) : Int) - 1) = -1 by omega]
    (repeat (first | ((with_reducible refine Tr.step rfl ?_); (first | (refine xmQ (z := ?_)) | (refine xaQ (z := ?_)) | (refine xiQ (z := ?_)))) | (with_reducible first | apply Tr.next | apply Tr.seq | apply Tr.region | apply Tr.nil | apply Tr.exit | apply Tr.ret | apply Tr.then_exit) | ((with_reducible refine Tr.in_exit ?_ ?_); (exact rfl)) | (refine Tr.cond_f rfl (by first | (with_reducible assumption) | omega) ?_)))
    (refine dnQ (hL := by exact ⟨[_, _], rfl⟩) (k := ⟨rfl, ?_⟩))
    rw [← hbl]
    exact ⟨A2, c2, rfl, hx⟩
  | succ i =>
  rw [show (((i + 1 : Nat) : Int) - 1) = (i : Int) by omega]
  have hxl : (nats_ left).length = left.length := nats__length left
  have hcl2 := clone_fn M2 A2 c2 (nats_ left) (by rw [hxl]; exact hx) (by omega)
  rw [hxl] at hcl2
  (repeat (first | ((with_reducible refine Tr.step rfl ?_); (first | (refine xmQ (z := ?_)) | (refine xiQ (z := ?_)))) | (with_reducible first | apply Tr.next | apply Tr.seq | apply Tr.region | apply Tr.nil | apply Tr.skip | apply Tr.block) | (refine Tr.cond_t rfl (by first | (with_reducible assumption) | omega) ?_)))
  ((refine Tr.step rfl ?_))
  refine Exec.call (A := []) rfl hcl2 (List.Perm.refl _) rfl ?_
  rintro _ _ _ - ⟨⟨A3, c3, rfl, hc3, rfl⟩, rfl⟩
  simp only [List.cons_append, List.nil_append]
  have hdel := delete_own M2 A3 c3 (nats_ left) i (by omega) (by omega) hc3
  rw [hxl, nats__erase] at hdel
  (repeat (((with_reducible refine Tr.step rfl ?_); (first | (refine xmQ (z := ?_)) | (refine xdQ (z := ?_))))))
  ((refine Tr.step rfl ?_))
  refine Exec.call (A := [ownS 3 1 A3 left.length c3 (intV (nats_ left))]) rfl hdel (List.Perm.refl _) rfl ?_
  rintro _ _ _ - ⟨rfl, rfl, rfl⟩
  simp only [List.cons_append, List.nil_append]
  rw [becL] at hbl
  have hel : (left.eraseIdx i).length = left.length - 1 := List.length_eraseIdx_of_lt (by omega)
  have hsub2 := (List.eraseIdx_sublist left i).trans hsub
  have hns2 : ∀ t ∈ left.eraseIdx i, (l.getD t zH).kind ≠ 3 := fun t ht => hns t ((List.eraseIdx_sublist left i).subset ht)
  rw [← hel]
  generalize left.eraseIdx i = others at hbl hel hsub2 hns2
  refine pbQ (r := ownS 3 1 A3 _ _ _) (k := fun M3 hm3 ok3 => ?_)
  have i3 := Ints.ofOwn ok3 (by rw [nats__length]) hc3
  rw [nats__length] at i3
  have hm13 := hm2.trans hm3
  have hwo := without_fn M3 _ _ k (hB0.mono hm13) A c l (hl.mono RHp.mono hm13) s (hS0.mono hm13) hrun j (by omega) A3 c3 others i3 (fun t ht => ⟨by have := List.mem_range.1 (hsub2.subset ht); omega, hns2 t ht⟩) hll (by omega)
  have hwf := with_fit hrun hjl hsub2 hns2
  generalize withF k l s.br j others = wst at hwo hwf hbl
  (repeat (first | ((with_reducible refine Tr.step rfl ?_); (first | (refine xmQ (z := ?_)) | (refine xaQ (z := ?_)) | (refine xwQ (z := ?_)))) | (with_reducible first | apply Tr.next | apply Tr.seq | apply Tr.region | apply Tr.nil)))
  ((refine Tr.step rfl ?_))
  refine Exec.call0 rfl hwo rfl ?_
  rintro r4 M4 hm4 hS4
  have hS4' := hS4
  obtain ⟨Cf, gf, Ca, ga, Cd, gd, Cn, gn, Cu, gu, Cb, gb, rfl, w1, w2, w3, w4, w5, w6⟩ := hS4
  have hq1 : (q : Int) + 1 = ((q + 1 : Nat) : Int) := by omega
  have hnd : wst.nd.length = k.reqs.length := by rw [← hwf.dul]; simp [fxB]
  have hfl := failing_own M4 _ (fxB k) wst (q + 1) hS4' hwf (by omega)
  (repeat (first | ((with_reducible refine Tr.step rfl ?_); (first | (refine xmQ (z := ?_)) | (refine xwQ (z := ?_)) | (refine xdQ (z := ?_)) | (refine xWQ (z := ?_)) | ((with_reducible refine Knd.alloc ?_); (refine Exec.alloc (tysOk.get rfl) rfl rfl (fun b => ?_))))) | (with_reducible first | apply Tr.next | apply Tr.seq | apply Tr.region | apply Tr.nil)))
  generalize b = b14
  rw [hq1]
  ((refine Tr.step rfl ?_))
  refine Exec.call (A := []) rfl hfl (List.Perm.refl _) rfl ?_
  rintro _ M5 _ hm5 ⟨A9, c9, hc9, rfl, rfl⟩
  simp only [List.cons_append, List.nil_append]
  generalize failF (fxB k) wst (q + 1) = fl at hbl
  refine pbQ (r := ownS 3 1 A9 _ _ _) (k := fun M6 hm6 ok6 => ?_)
  have i6 := Ints.ofOwn ok6 (by rw [nats__length]) hc9
  have hm36 := hm4.trans (hm5.trans hm6)
  have hm26 := hm3.trans hm36
  have hfln : (nats_ fl).length = fl.length := nats__length fl
  have hco := contains_fn M6 A9 c9 (nats_ fl) (q : Int) i6
  rw [hfln] at hco
  (repeat (((with_reducible refine Tr.step rfl ?_); (with_reducible refine Knd.move ?_); (refine xmQ (z := ?_)))))
  ((refine Tr.step rfl ?_))
  refine Exec.call0 rfl hco rfl ?_
  rintro _ _ _ ⟨⟨bb, rfl, hbb⟩, rfl⟩
  rw [nats__mem] at hbb
  cases bb with
  | true =>
    rw [if_pos (hbb.1 rfl)] at hbl
    (repeat (first | ((with_reducible refine Tr.step rfl ?_); (first | (refine xmQ (z := ?_)) | (refine xaQ (z := ?_)) | ((with_reducible refine Knd.binOp ?_); (refine Exec.stab rfl (Stab.subi rfl rfl (by omega)) rfl ?_)))) | (with_reducible first | apply Tr.next | apply Tr.region | apply Tr.nil | apply Tr.in_normal) | (refine Tr.cond_bt rfl (by (with_reducible rfl)) ?_)))
    refine gvQ (r := box b14 _ _) (k := ?_)
    exact Tr.again (i, M6, A3, c3, others) ⟨by simp only; omega, hm2.trans hm26, i3.mono RI.mono hm36, ⟨hsub2, hns2⟩, hbl⟩ (by simp only; omega) hsQ
  | false =>
    rw [if_neg (fun h => by have := hbb.2 h; cases this)] at hbl
    (repeat (first | ((with_reducible refine Tr.step rfl ?_); (first | (refine xmQ (z := ?_)) | (refine xaQ (z := ?_)) | ((with_reducible refine Knd.binOp ?_); (refine Exec.stab rfl (Stab.subi rfl rfl (by omega)) rfl ?_)))) | (with_reducible first | apply Tr.next | apply Tr.region | apply Tr.nil | apply Tr.skip | apply Tr.in_normal) | (refine Tr.cond_bf rfl (by (with_reducible rfl)) ?_)))
    refine gvQ (r := box b14 _ _) (k := ?_)
    exact Tr.again (i, M6, A2, c2, left) ⟨by simp only; omega, hm2.trans hm26, hx.mono RI.mono hm26, ⟨hsub, hns⟩, hbl⟩ (by simp only; omega) hsQ
end Go.Proofs.Ytgnipfjjkliibaa

/-
  Honour: Broken.
  Conditions: none.
-/
namespace Go.Proofs.Ytgnipfjjkliibaa
open Go Bf
attribute [local irreducible] Tr Exec Stab HasTy Go.Addr.add IntKind.wrap
noncomputable def brkN (k : Bk) (l : List Hp) (s : St) (n : Nat) : List (Nat × List Nat) := ((List.range n).filter fun q => decide (0 ≤ s.br.getD q 0)).map fun q => (q, becF k l s.br q)
noncomputable def brkF (k : Bk) (l : List Hp) (s : St) : List (Nat × List Nat) := brkN k l s s.br.length
def RBr (M : Mem) (c : List Value) (y : Nat × List Nat) : Prop := ∃ A n, c = [.int .i64 (y.1 : Int), .slice A y.2.length n] ∧ Ints M (.slice A y.2.length n) (nats_ y.2)
theorem RBr.mono (M M' : Mem) (c : List Value) (y : Nat × List Nat) (hm : Mem.le M M') (h : RBr M c y) : RBr M' c y := by
  obtain ⟨A, n, h1, h2⟩ := h
  exact ⟨A, n, h1, h2.mono RI.mono hm⟩
theorem brkN_succ (k : Bk) (l : List Hp) (s : St) (n : Nat) : brkN k l s (n + 1) = brkN k l s n ++ (if 0 ≤ s.br.getD n 0 then [(n, becF k l s.br n)] else []) := by
  rw [brkN, List.range_succ, List.filter_append, List.map_append, brkN]
  congr 1
  by_cases h : 0 ≤ s.br.getD n 0
  · rw [if_pos h, List.filter_cons_of_pos (by exact decide_eq_true h)]; rfl
  · rw [if_neg h, List.filter_cons_of_neg (by rw [decide_eq_true_iff]; exact h)]; rfl
theorem brkN_len (k : Bk) (l : List Hp) (s : St) (n : Nat) : (brkN k l s n).length ≤ n := by
  rw [brkN, List.length_map]
  have := List.length_filter_le (fun q => decide (0 ≤ s.br.getD q 0)) (List.range n)
  rwa [List.length_range] at this
set_option maxHeartbeats 16000000 in
theorem broken1_fn (M : Mem) (k : Bk) (v1 v2 v3 v4 v5 : Value) (h : RBk M (.agg #[v1, v2, v3, v4, v5]) k) (A : Option Addr) (c : Nat) (l : List Hp) (hl : SlOf 5 RHp M (.slice A l.length c) l) (hll : l.length ≤ 1000) (b2 b3 b4 : Nat) :
    FnP Try.prog 30 [.pointer (some ⟨b2, 0, none⟩), .pointer (some ⟨b3, 0, none⟩), .pointer (some ⟨b4, 0, none⟩)] M [box b2 27 [v1, v2, v3, v4, v5], box b3 28 [.slice A l.length c], box b4 34 [.slice none 0 0]]
      (fun _ M' A' => ∃ s A9 c9, runF k l = some s ∧ SlOf 2 RBr M' (.slice A9 (brkF k l s).length c9) (brkF k l s) ∧ A' = [box b4 34 [.slice A9 (brkF k l s).length c9]])
      (fun ch _ A' => ch = refCh ∧ runF k l = none ∧ A' = [box b4 34 [.slice none 0 0]]) := by
  refine FnP.intro Try.func30 rfl rfl Try.ntmps30 rfl fun E F => ?_
  (repeat (first | ((with_reducible refine Tr.step rfl ?_); (with_reducible refine Knd.load ?_); (first | (refine xlQ (z := ?_)) | (refine xwQ (z := ?_)))) | (with_reducible first | apply Tr.seq | apply Tr.region)))
  ((refine Tr.step rfl ?_))
  refine Exec.callP rfl (run_fn M _ k h A c l hl) (List.Perm.refl _) rfl (fun v M1 A' hm hR => ?_) (fun ch M' A' hm hR => ?_)
  rotate_left
  · obtain ⟨rfl, rfl, hn⟩ := hR
    (repeat ((with_reducible refine Tr.then_panic ?_)))
    exact Tr.doneP (A' := [box b4 34 [.slice none 0 0]]) hm (DropL.skip (DropL.skip DropL.refl)) ⟨rfl, hn, rfl⟩
  obtain ⟨rfl, s, hrun, hS⟩ := hR
  obtain ⟨n1, n2, n3, n4⟩ := run_len hrun
  obtain ⟨hfb, -, -⟩ := run_keep hrun
  have hr64 := hfb.2.1
  have hS0 := hS
  obtain ⟨Bf, kf, Ba, ka, Bd, kd, Bn, kn, Bu, ku, Bb, kb, rfl, q1, q2, q3, q4, q5, q6⟩ := hS
  (repeat (first | ((with_reducible refine Tr.step rfl ?_); (first | (refine xmQ (z := ?_)) | (refine xlQ (z := ?_)) | (refine xfQ (z := ?_)) | (refine xnQ (z := ?_)) | (refine xWQ (z := ?_)) | ((with_reducible refine Knd.alloc ?_); (refine Exec.alloc (tysOk.get rfl) rfl rfl (fun b => ?_))))) | (with_reducible first | apply Tr.next | apply Tr.seq | apply Tr.region | apply Tr.nil | apply Tr.block)))
  generalize b = b5
  simp only [List.cons_append, List.nil_append, List.append_eq]
  refine Tr.own_nil 52 2 ?_
  refine Tr.loop (α := Nat × Mem × Option Addr × Nat × List Value) (fun y => ⟨30, [(12, .int .i64 (y.1 : Int)), (11, .int .i64 (s.br.length : Int)), (10, .slice Bb s.br.length kb), (3, .pointer (some ⟨b5, 0, none⟩)), (0, .pointer (some ⟨b2, 0, none⟩)), (1, .pointer (some ⟨b3, 0, none⟩)), (2, .pointer (some ⟨b4, 0, none⟩))], [], y.2.1,
      ownS 52 2 y.2.2.1 (brkN k l s y.1).length y.2.2.2.1 y.2.2.2.2 :: box b5 64 [.slice Bf (fxB k).fits.length kf, .slice Ba s.am.length ka, .slice Bd s.dy.length kd, .slice Bn s.nd.length kn, .slice Bu (fxB k).due.length ku, .slice Bb s.br.length kb] :: box b2 27 [v1, v2, v3, v4, v5] :: box b3 28 [.slice A l.length c] :: box b4 34 [.slice y.2.2.1 (brkN k l s y.1).length y.2.2.2.1] :: F⟩)
    (fun y => y.1 ≤ s.br.length ∧ Mem.le M1 y.2.1 ∧ y.2.2.2.1 ≤ 9223372036854775807 ∧ Elems 2 RBr y.2.1 y.2.2.2.2 (brkN k l s y.1)) (fun y => s.br.length - y.1) (0, M1, none, 0, []) ⟨Nat.zero_le _, Mem.le.refl _, by show (0 : Nat) ≤ _; omega, Elems.nil⟩ hsQ (fun y hy => ?_)
  obtain ⟨i, M2, A1, c1, cells⟩ := y
  obtain ⟨hi, hm2, hc1, hel⟩ := hy
  dsimp only at hi hm2 hc1 hel
  dsimp only
  have hbl := brkN_len k l s i
  by_cases hlt : i < s.br.length
  · obtain ⟨z, hz⟩ := get_of_lt (xs := s.br) (i := i) hlt
    have hnx := brkN_succ k l s i
    have hzd := getD_of (d := (0 : Int)) hz
    obtain ⟨hAb, hatb⟩ := Ints.at (q6.mono RI.mono hm2) hz
    rw [hzd] at hnx
    by_cases h0 : 0 ≤ z
    · rw [if_pos h0] at hnx
      have hM2 := hm.trans hm2
      have hbe := because_fn M2 _ _ k (h.mono hM2) A c l (hl.mono RHp.mono hM2) s (hS0.mono hm2) hrun i (by omega) (by rw [hzd]; exact h0) hll
      (repeat (first | ((with_reducible refine Tr.step rfl ?_); (first | (refine xmQ (z := ?_)) | (refine xaQ (z := ?_)) | (refine xMQ (z := ?_)) | (refine xiQ (z := ?_)) | (refine xxQ (z := ?_)))) | (with_reducible first | apply Tr.next | apply Tr.seq | apply Tr.region | apply Tr.nil | apply Tr.skip | apply Tr.block) | (refine Tr.cond_t rfl (by first | (with_reducible assumption) | omega) ?_)))
      (((apply Tr.draw); (kernel_rfl)); (refine tkQ 0 (hB := by exact fun _ h => h) (s := by exact slQ) (h := ?_)); (refine tkQ 1 (s := by exact Stab.move rfl) (h := ?_)); (refine tkQ 2 (s := by exact swQ) (h := ?_)); (refine tkQ 3 (s := by exact slQ) (h := ?_)); (refine tkQ 4 (s := by exact swQ) (h := ?_)); (refine tkQ 5 (s := by exact Stab.move rfl) (h := ?_)); (refine TrA.eff 6 rfl (by kernel_rfl) (by exact .inl rfl) ?_))
      refine Exec.call0 rfl hbe rfl ?_
      rintro _ M3 hm3 ⟨A5, c5, rfl, hI⟩
      refine ⟨hm3, (by exact fun _ h => h), ?_⟩
      ((refine tkQ 7 (s := by exact Stab.build tysOk rfl rfl rfl rfl (by repeat (first | exact BuildP.nil | ((apply BuildP.one); (rfl); (rfl); (first | rfl | assumption); (repeat (first | exact SetL.z | apply SetL.s)))))) (h := ?_)); (refine TrA.eff 8 rfl (by kernel_rfl) (by exact .inl rfl) ?_); (((refine Knd.buildSlice ?_); ((refine Exec.buildSlice (tysOk.get rfl) rfl (tysOk.get rfl) rfl rfl rfl rfl rfl (by repeat (first | exact BuildP.nil | ((apply BuildP.many); (rfl); (rfl); (rfl); (rfl); (repeat (first | exact PutL.nil | ((apply PutL.cons); (repeat (first | exact SetL.z | apply SetL.s)))))))) rfl (fun b => ?_))))); (refine ⟨(by first | exact Mem.le.refl _ | assumption), (by exact (Sub.mem (by repeat (first | exact Sub.refl | apply Sub.cons)))), ?_⟩); (refine TrA.effD 9 rfl (by kernel_rfl) (by kernel_rfl) (by exact .inl rfl) ?_))
      refine Exec.append (news := [.int .i64 (i : Int), .slice A5 (becF k l s.br i).length c5]) rfl rfl (tysOk.get rfl) rfl (tysOk.get rfl) rfl rfl rfl rfl (by repeat (first | exact Del.here | apply Del.there)) (Src.box (by repeat (first | exact Has.here | apply Has.there))) rfl (by intro u hu; simp at hu; rcases hu with rfl | rfl <;> rfl) (by omega) (by omega) rfl (fun A7 c7 hc7 => ?_)
      refine ⟨_, fun _ h => h, ?_⟩
      ((refine TrA.effD 10 rfl (by kernel_rfl) (by kernel_rfl) (by exact .inl rfl) ?_); (((refine Knd.store ?_); ((refine xSQ (z := ?_))))); (refine ⟨_, fun _ h => h, ?_⟩); (refine TrA.done (by kernel_rfl) ?_))
      refine gvQ (r := box b _ _) (k := ?_)
      have hel2 : Elems 2 RBr M3 (cells ++ [.int .i64 (i : Int), .slice A5 (becF k l s.br i).length c5]) (brkN k l s (i + 1)) := by
        rw [hnx]
        exact (hel.mono RBr.mono hm3).append (Elems.one rfl ⟨A5, c5, rfl, hI⟩)
      rw [show (brkN k l s i).length + 1 = (brkN k l s (i + 1)).length by rw [hnx, List.length_append]; rfl]
      (repeat (first | ((with_reducible refine Tr.step rfl ?_); (first | (refine xmQ (z := ?_)) | (refine xdQ (z := ?_)))) | (with_reducible first | apply Tr.next | apply Tr.region | apply Tr.nil | apply Tr.in_normal)))
      exact Tr.again (i + 1, M3, A7, c7, _) ⟨by simp only; omega, hm2.trans hm3, hc7, hel2⟩ (by simp only; omega) hsQ
    · rw [if_neg h0, List.append_nil] at hnx
      rw [← hnx]
      (repeat (first | ((with_reducible refine Tr.step rfl ?_); (first | (refine xmQ (z := ?_)) | (refine xaQ (z := ?_)) | (refine xMQ (z := ?_)) | ((with_reducible refine Knd.binOp ?_); (first | (refine xdQ (z := ?_)) | (refine xiQ (z := ?_)))) | (refine xxQ (z := ?_)))) | (with_reducible first | apply Tr.next | apply Tr.seq | apply Tr.region | apply Tr.nil | apply Tr.skip | apply Tr.block | apply Tr.in_normal) | (refine Tr.cond_t rfl (by first | (with_reducible assumption) | omega) ?_) | (refine Tr.cond_f rfl (by (with_reducible assumption)) ?_)))
      exact Tr.again (i + 1, M2, A1, c1, cells) ⟨by simp only; omega, hm2, hc1, by rw [hnx]; exact hel⟩ (by simp only; omega) hsQ
  have ei : s.br.length = i := by omega
  subst ei
  refine pbQ (r := ownS 52 2 A1 _ _ _) (k := fun M3 hm3 ok3 => ?_)
  have i3 := SlOf.ofOwn ok3 rfl hc1 (hel.mono RBr.mono hm3)
  have hlast := hm.trans (hm2.trans hm3)
  (repeat (first | ((with_reducible refine Tr.step rfl ?_); (with_reducible refine Knd.binOp ?_); (refine xiQ (z := ?_))) | (with_reducible first | apply Tr.next | apply Tr.seq | apply Tr.region | apply Tr.nil | apply Tr.exit | apply Tr.then_exit) | ((with_reducible refine Tr.in_exit ?_ ?_); (exact rfl)) | (refine Tr.cond_f rfl (by first | (with_reducible assumption) | omega) ?_)))
  refine Tr.ofPost ?_
  exact Tr.doneB (A' := [box b4 34 [.slice A1 (brkF k l s).length c1]]) [_, _, _] (by first | exact .inl rfl | exact .inr rfl) rfl (by repeat (exact RVs.nil)) hlast (List.Perm.refl _) ⟨s, A1, c1, hrun, i3, rfl⟩
end Go.Proofs.Ytgnipfjjkliibaa

/-
  Honour: Broken; the state of a result.
  Conditions: none.
-/
namespace Go.Proofs.Ytgnipfjjkliibaa
open Go Bf
attribute [local irreducible] Tr Exec Stab HasTy Go.Addr.add IntKind.wrap
/-- what Broken answers -/
noncomputable def brokenF (k : Bk) (l : List Hp) : List (Nat × List Nat) × Int := match runF k l with
  | some s => (brkF k l s, 0)
  | none => ([], 330)
set_option maxHeartbeats 4000000 in
theorem broken_fn (M : Mem) (v : Value) (k : Bk) (h : RBk M v k) (A : Option Addr) (c : Nat) (l : List Hp) (hl : SlOf 5 RHp M (.slice A l.length c) l) (hll : l.length ≤ 1000) :
    Fn0 Try.prog 13 [v, .slice A l.length c] M (fun r M' => ∃ A9 c9, r = .tuple #[.slice A9 (brokenF k l).1.length c9, .int .i64 (brokenF k l).2] ∧ SlOf 2 RBr M' (.slice A9 (brokenF k l).1.length c9) (brokenF k l).1) := by
  obtain ⟨v1, v2, v3, v4, v5, rfl, o1, o2, o3, o4, o5⟩ := h.open5
  refine Fn.intro Try.func13 rfl rfl Try.ntmps13 rfl fun E F => ?_
  (repeat (first | ((with_reducible refine Tr.step rfl ?_); (first | (refine xaQ (z := ?_)) | ((with_reducible refine Knd.makeFunc ?_); (refine Exec.stab rfl (Stab.makeFunc rfl rfl) rfl ?_)) | ((with_reducible refine Knd.box ?_); (first | (refine Exec.box rfl rfl (fun b => ?_)) | (refine Exec.box1 rfl (by first | rfl | assumption) rfl (fun b => ?_)))) | ((with_reducible refine Knd.alloc ?_); (refine Exec.alloc1 (tysOk.get rfl) rfl rfl rfl (fun b => ?_))))) | (with_reducible first | apply Tr.next | apply Tr.seq | apply Tr.region | apply Tr.nil)))
  generalize b = b4
  rename_i b2 b3
  ((refine Tr.step rfl ?_))
  refine Exec.call (A := [box b2 27 [v1, v2, v3, v4, v5], box b3 28 [.slice A l.length c], box b4 34 [.slice none 0 0]]) rfl (attempt_fn M 30 [.pointer (some ⟨b2, 0, none⟩), .pointer (some ⟨b3, 0, none⟩), .pointer (some ⟨b4, 0, none⟩)] _ _ _ (broken1_fn M k v1 v2 v3 v4 v5 h A c l hl hll b2 b3 b4) (fun ch M' A' h => h.1)) (rev3 _ _ _ _) rfl ?_
  rintro r M' A' hm (⟨rfl, -, s, A9, c9, hs, hB, rfl⟩ | ⟨rfl, -, hn, rfl⟩)
  · simp only [List.cons_append, List.nil_append]
    (repeat (first | ((with_reducible refine Tr.step rfl ?_); (first | (refine xmQ (z := ?_)) | (refine xaQ (z := ?_)) | (refine xlQ (z := ?_)) | (refine xSQ (z := ?_)))) | (with_reducible first | apply Tr.next | apply Tr.seq | apply Tr.region | apply Tr.nil | apply Tr.ret)))
    (refine Tr.done (by first | exact .inl rfl | exact .inr rfl) rfl (by repeat (first | exact RVs.nil | (apply RVs.cons; (first | exact RV.tmp rfl | exact RV.cell (by rfl) (tysOk.get (by rfl)) (by rfl) (by repeat (first | exact Has.here | apply Has.there)))))) (by first | exact Mem.le.refl _ | assumption) (by exact ⟨[_], rfl⟩) ⟨rfl, ?_⟩)
    rw [brokenF, hs]
    exact ⟨A9, c9, rfl, hB⟩
  · simp only [List.cons_append, List.nil_append]
    (repeat (first | ((with_reducible refine Tr.step rfl ?_); (first | (refine xmQ (z := ?_)) | (refine xaQ (z := ?_)) | (refine xlQ (z := ?_)) | (refine xSQ (z := ?_)))) | (with_reducible first | apply Tr.next | apply Tr.seq | apply Tr.region | apply Tr.nil | apply Tr.ret)))
    (refine Tr.done (by first | exact .inl rfl | exact .inr rfl) rfl (by repeat (first | exact RVs.nil | (apply RVs.cons; (first | exact RV.tmp rfl | exact RV.cell (by rfl) (tysOk.get (by rfl)) (by rfl) (by repeat (first | exact Has.here | apply Has.there)))))) (by first | exact Mem.le.refl _ | assumption) (by exact ⟨[_], rfl⟩) ⟨rfl, ?_⟩)
    rw [brokenF, hn]
    exact ⟨none, 0, rfl, SlOf.nil _ _ _⟩
/-! the state of a result -/
theorem list_eq {α : Type} {l m : List α} (d : α) (hl : l.length = m.length) (h : ∀ i, i < l.length → l.getD i d = m.getD i d) : l = m := by
  apply List.ext_getElem hl
  intro i h1 h2
  have := h i h1
  rwa [List.getD_eq_getElem?_getD, List.getD_eq_getElem?_getD, List.getElem?_eq_getElem h1, List.getElem?_eq_getElem h2] at this
theorem res_len (k : Bk) (s : St) : (resF k s).sups.length = k.sups.length ∧ (resF k s).reqs.length = k.reqs.length := by simp [resF]
theorem res_am {k : Bk} {s : St} (h : s.am.length = k.sups.length) : (beginF (resF k s)).am = s.am := by
  refine list_eq 0 (by simp [beginF, resF, h]) (fun i hi => ?_)
  have hi2 : i < k.sups.length := by simpa [beginF, resF] using hi
  simp [beginF, resF, setSup, List.getD_eq_getElem?_getD, hi2]
theorem res_nd {k : Bk} {s : St} (h : s.nd.length = k.reqs.length) (hb : s.br.length = k.reqs.length) : (beginF (resF k s)).nd = mskL s.nd (askF s) := by
  refine list_eq 0 (by simp [beginF, resF, mskL, h]) (fun i hi => ?_)
  have hi2 : i < k.reqs.length := by simpa [beginF, resF] using hi
  rw [mskL_getD]
  have : askF s i = decide (s.br.getD i 0 < 0) := by rw [askF, hb, decide_eq_true hi2, Bool.true_and]
  rw [this]
  have e : (beginF (resF k s)).nd.getD i 0 = if 0 ≤ s.br.getD i 0 then 0 else s.nd.getD i 0 := by
    simp [beginF, resF, setReq, List.getD_eq_getElem?_getD, hi2]
  rw [e]
  by_cases c : 0 ≤ s.br.getD i 0
  · rw [if_pos c, if_neg (by rw [decide_eq_true_iff]; omega)]
  · rw [if_neg c, if_pos (by rw [decide_eq_true_iff]; omega)]
theorem mskL_rng {nd : List Int} {S : Nat → Bool} (h : ∀ a ∈ nd, 0 ≤ a ∧ a ≤ 1048576) : ∀ a ∈ mskL nd S, 0 ≤ a ∧ a ≤ 1048576 := fun a ha => by
  simp only [mskL, List.mem_map, List.mem_range] at ha
  obtain ⟨i, hi, rfl⟩ := ha
  split
  · exact getD_rng h i
  · omega
theorem res_vld {x : Fx} {s : St} (h : Fit x s) : Vld (tabL x.fits x.due s.dy) s.am (mskL s.nd (askF s)) :=
  ⟨h.l64, by rw [mskL_length]; exact h.r64, by rw [tabL_length]; exact h.dyl, fun r hr => by rw [tabL_row hr, mskL_length]; exact h.dul, h.amr, mskL_rng h.ndr⟩
theorem allocOf_unique {fits : List (List Bool)} {sup need : List Int} {a a' : Nat → Nat → Int} (h : LexMax (pbOf fits sup need) a) (h' : LexMax (pbOf fits sup need) a') : allocOf a need.length sup.length = allocOf a' need.length sup.length := by
  unfold allocOf
  apply List.map_congr_left
  intro i hi
  apply List.map_congr_left
  intro j hj
  exact h.unique h' i (List.mem_range.1 hi) j (List.mem_range.1 hj)
open Classical in
/-- what Flow gives, if all can be met -/
noncomputable def alF (fits : List (List Bool)) (sup need : List Int) : List (List Int) := if h : ∃ a, LexMax (pbOf fits sup need) a then allocOf (Classical.choose h) need.length sup.length else []
theorem alF_eq {fits : List (List Bool)} {sup need : List Int} {a : Nat → Nat → Int} (h : LexMax (pbOf fits sup need) a) : alF fits sup need = allocOf a need.length sup.length := by
  have he : ∃ a, LexMax (pbOf fits sup need) a := ⟨a, h⟩
  unfold alF
  rw [dif_pos he]
  exact allocOf_unique (Classical.choose_spec he) h
end Go.Proofs.Ytgnipfjjkliibaa

/-
  Honour: Ship.
  Conditions: none.
-/
namespace Go.Proofs.Ytgnipfjjkliibaa
open Go Bf
attribute [local irreducible] Tr Exec Stab HasTy Go.Addr.add IntKind.wrap
def hpC (h : Hp) : List Value := [.int .i64 h.kind, .int .i64 h.sup, .int .i64 h.req, .int .i64 h.day, .int .i64 h.amt]
theorem hpC_len (h : Hp) : (hpC h).length = 5 := rfl
def amv (am : List (List Int)) (i j : Nat) : Int := (am.getD i []).getD j 0
def shIn (am : List (List Int)) (j : Nat) (day : Int) (n : Nat) : List Hp := (List.range n).flatMap fun i => if 0 < amv am i j then [⟨3, (i : Int), (j : Int), day, amv am i j⟩] else []
def shOut (am : List (List Int)) (reqs : List Rq) (day : Int) (ns m : Nat) : List Hp := (List.range m).flatMap fun j => if (reqs.map (·.due)).getD j 0 = day then shIn am j day ns else []
theorem shIn_succ (am : List (List Int)) (j : Nat) (day : Int) (n : Nat) : shIn am j day (n + 1) = shIn am j day n ++ if 0 < amv am n j then [⟨3, (n : Int), (j : Int), day, amv am n j⟩] else [] := by
  rw [shIn, List.range_succ, List.flatMap_append, shIn]
  simp
theorem shOut_succ (am : List (List Int)) (reqs : List Rq) (day : Int) (ns m : Nat) : shOut am reqs day ns (m + 1) = shOut am reqs day ns m ++ if (reqs.map (·.due)).getD m 0 = day then shIn am m day ns else [] := by
  rw [shOut, List.range_succ, List.flatMap_append, shOut]
  simp
theorem shIn_len (am : List (List Int)) (j : Nat) (day : Int) (n : Nat) : (shIn am j day n).length ≤ n := by
  induction n with
  | zero => exact Nat.le_refl _
  | succ n ih =>
    rw [shIn_succ, List.length_append]
    split
    · rw [List.length_singleton]; omega
    · rw [List.length_nil]; omega
theorem shOut_len (am : List (List Int)) (reqs : List Rq) (day : Int) (ns m : Nat) : (shOut am reqs day ns m).length ≤ m * ns := by
  induction m with
  | zero => exact Nat.zero_le _
  | succ m ih =>
    rw [shOut_succ, List.length_append, Nat.succ_mul]
    have := shIn_len am m day ns
    split
    · omega
    · rw [List.length_nil]; omega
/-- what is shipped of a book -/
noncomputable def shipsOf (y : Bk) (day : Int) : List Hp := shOut (alF y.fits (beginF y).am (beginF y).nd) y.reqs day y.sups.length y.reqs.length
/-- what Ship answers -/
noncomputable def shipL (k : Bk) (l : List Hp) (day : Int) : List Hp × Int := match runF k l with
  | some s => if 0 ≤ day ∧ day ≤ 1023 then (shipsOf (resF k s) day, 0) else ([], 330)
  | none => ([], 330)
/-- if something is shipped, there is a greatest allocation -/
def ShipEx (k : Bk) (l : List Hp) (day : Int) : Prop := ∀ s, runF k l = some s → 0 ≤ day ∧ day ≤ 1023 → ∃ a, LexMax (pbOf (resF k s).fits (beginF (resF k s)).am (beginF (resF k s)).nd) a
theorem i64s_of {l : List Int} (h : ∀ a ∈ l, 0 ≤ a ∧ a ≤ 1048576) : I64s l := fun a ha => by have := h a ha; omega
set_option maxHeartbeats 16000000 in
theorem ship0_fn (M : Mem) (v : Value) (k : Bk) (h : RBk M v k) (A : Option Addr) (c : Nat) (l : List Hp) (hl : SlOf 5 RHp M (.slice A l.length c) l) (day : Int) :
    Fn0 Try.prog 15 [v, .slice A l.length c, .int .i64 day] M (fun r M' => ∃ A9 c9, r = .tuple #[.slice A9 (shipL k l day).1.length c9, .int .i64 (shipL k l day).2] ∧ SlOf 5 RHp M' (.slice A9 (shipL k l day).1.length c9) (shipL k l day).1 ∧ ShipEx k l day) := by
  have hdo := do_fn M v k h A c l hl
  obtain ⟨v1, v2, v3, v4, v5, rfl, o1, o2, o3, o4, o5⟩ := h.open5
  refine Fn.intro Try.func15 rfl rfl Try.ntmps15 rfl fun E F => ?_
  (repeat (first | ((with_reducible refine Tr.step rfl ?_); (first | (refine xmQ (z := ?_)) | (refine xaQ (z := ?_)) | (refine xwQ (z := ?_)) | ((with_reducible refine Knd.box ?_); (refine Exec.box rfl rfl (fun b => ?_))))) | (with_reducible first | apply Tr.next | apply Tr.seq | apply Tr.region | apply Tr.nil)))
  ((refine Tr.step rfl ?_))
  refine Exec.call0 rfl hdo rfl ?_
  rintro _ M1 hm1 ⟨w, rfl, hB⟩
  have hw := hB.open5
  obtain ⟨u1, u2, u3, u4, u5, rfl, p1, p2, p3, p4, p5⟩ := hw
  cases hrun : runF k l with
  | none =>
    have e1 : doF k l = (zB, 330) := by rw [doF, hrun]
    have e2 : shipL k l day = ([], 330) := by rw [shipL, hrun]
    rw [e1]
    rw [e2]
    dsimp only
    (repeat (first | ((with_reducible refine Tr.step rfl ?_); (first | (refine xmQ (z := ?_)) | (refine xaQ (z := ?_)) | (refine xiQ (z := ?_)) | (refine xWQ (z := ?_)) | ((with_reducible refine Knd.alloc ?_); (refine Exec.alloc (tysOk.get rfl) rfl rfl (fun b => ?_))) | ((with_reducible refine Knd.extract ?_); (refine Exec.stab rfl (Stab.extract rfl rfl) rfl ?_)))) | (with_reducible first | apply Tr.next | apply Tr.seq | apply Tr.region | apply Tr.nil | apply Tr.ret | apply Tr.then_ret) | (refine Tr.cond_t rfl (by first | (with_reducible assumption) | omega) ?_)))
    (refine dnQ (hL := by exact ⟨[_, _], rfl⟩) (k := ⟨rfl, ?_⟩))
    exact ⟨none, 0, rfl, SlOf.nil _ _ _, fun s hs => by rw [hrun] at hs; cases hs⟩
  | some s =>
  have e1 : doF k l = (resF k s, 0) := by rw [doF, hrun]
  rw [e1] at hB ⊢
  dsimp only at hB ⊢
  obtain ⟨hfb, hfit, hheld⟩ := run_keep hrun
  obtain ⟨n1, n2, n3, n4⟩ := run_len hrun
  (repeat (first | ((with_reducible refine Tr.step rfl ?_); (first | (refine xmQ (z := ?_)) | (refine xaQ (z := ?_)) | (refine xiQ (z := ?_)) | (refine xWQ (z := ?_)) | ((with_reducible refine Knd.alloc ?_); (refine Exec.alloc (tysOk.get rfl) rfl rfl (fun b => ?_))) | ((with_reducible refine Knd.extract ?_); (refine Exec.stab rfl (Stab.extract rfl rfl) rfl ?_)))) | (with_reducible first | apply Tr.next | apply Tr.seq | apply Tr.region | apply Tr.nil | apply Tr.skip) | (refine Tr.cond_f rfl (by (with_reducible exact (not_not_intro rfl))) ?_)))
  ((refine Tr.step rfl ?_)); refine Exec.call0 rfl (between_fn M1 day 0 1023) rfl ?_
  rintro _ _ _ ⟨rfl, rfl⟩
  by_cases hd : 0 ≤ day ∧ day ≤ 1023
  rotate_left
  · have e2 : shipL k l day = ([], 330) := by rw [shipL, hrun]; exact if_neg hd
    rw [decide_eq_false hd, e2]
    (repeat (first | ((with_reducible refine Tr.step rfl ?_); (first | (refine xaQ (z := ?_)) | ((with_reducible refine Knd.unOp ?_); (refine Exec.stab rfl (Stab.not rfl) rfl ?_)))) | (with_reducible first | apply Tr.next | apply Tr.seq | apply Tr.region | apply Tr.nil | apply Tr.ret | apply Tr.then_ret) | (refine Tr.cond_bt rfl (by first | (with_reducible rfl) | (with_reducible exact Bool.not_false)) ?_)))
    (refine dnQ (hL := by exact ⟨[_, _], rfl⟩) (k := ⟨rfl, ?_⟩))
    exact ⟨none, 0, rfl, SlOf.nil _ _ _, fun _ _ h => absurd h hd⟩
  have e2 : shipL k l day = (shipsOf (resF k s) day, 0) := by rw [shipL, hrun]; exact if_pos hd
  rw [decide_eq_true hd, e2]
  have hB0 := hB
  obtain ⟨As, cs, Ar, cr, Af, cf, Ad, cd, ev, h1, h2, h3⟩ := hB
  injection ev with ev
  simp only [Array.mk.injEq, List.cons.injEq, and_true] at ev
  obtain ⟨rfl, rfl, rfl, rfl, rfl⟩ := ev
  have hbe := fun M2 hm2 => hbegin_fn M2 _ (resF k s) (hB0.mono hm2) (by rw [(res_len k s).1]; have := hfb.1; omega) (by rw [(res_len k s).2]; have := hfb.2.1; omega)
  (repeat (first | ((with_reducible refine Tr.step rfl ?_); (first | (refine xwQ (z := ?_)) | ((with_reducible refine Knd.unOp ?_); (refine Exec.stab rfl (Stab.not rfl) rfl ?_)))) | (with_reducible first | apply Tr.next | apply Tr.seq | apply Tr.region | apply Tr.nil | apply Tr.skip) | (refine Tr.cond_bf rfl (by first | (with_reducible rfl) | (with_reducible exact Bool.not_true)) ?_)))
  ((refine Tr.step rfl ?_)); refine Exec.call0 rfl (hbe M1 (Mem.le.refl _)) rfl ?_
  rintro r2 M2 hm2 ⟨Bf, kf, Ba, ka, Bd, kd, Bn, kn, Bu, ku, Bb, kb, rfl, q1, q2, q3, q4, q5, q6⟩
  have hv := res_vld hfit
  have eam := res_am n1
  have end_ := res_nd n2 n4
  have hfe : Feas (pbOf (resF k s).fits (beginF (resF k s)).am (beginF (resF k s)).nd) := by
    rw [eam, end_]; exact hheld
  have hvv : Vld (resF k s).fits (beginF (resF k s)).am (beginF (resF k s)).nd := by
    rw [eam, end_]; exact hv
  (repeat (first | ((with_reducible refine Tr.step rfl ?_); (first | (refine xlQ (z := ?_)) | (refine xfQ (z := ?_)) | (refine xWQ (z := ?_)) | ((with_reducible refine Knd.alloc ?_); (refine Exec.alloc (tysOk.get rfl) rfl rfl (fun b => ?_))))) | (with_reducible first | apply Tr.next | apply Tr.seq | apply Tr.region | apply Tr.nil)))
  ((refine Tr.step rfl ?_)); refine Exec.call0 rfl (flow_fn M2 Af Ba Bn cf ka kn (resF k s).fits (beginF (resF k s)).am (beginF (resF k s)).nd (h3.mono RRowB.mono hm2) q2 q4 (i64s_of hvv.rs) (i64s_of hvv.rn)) rfl ?_
  rintro r3 M3 hm3 hfl
  rcases hfl with ⟨hbad, rfl⟩ | ⟨-, hnf, -⟩ | ⟨-, a, hmax, B1, k1, rfl, hI⟩
  · rw [vld_iff.2 hvv] at hbad; cases hbad
  · exact absurd hfe hnf
  have hex : ShipEx k l day := fun s' hs' _ => by rw [hrun] at hs'; cases hs'; exact ⟨a, hmax⟩
  have eal := alF_eq hmax
  have hns : (beginF (resF k s)).am.length = (resF k s).sups.length := (begin_len _).1
  have hnr : (beginF (resF k s)).nd.length = (resF k s).reqs.length := (begin_len _).2.1
  have hlen : (alF (resF k s).fits (beginF (resF k s)).am (beginF (resF k s)).nd).length = (resF k s).sups.length := by rw [eal, allocOf_length, hns]
  have hrowl : ∀ i (r : List Int), (alF (resF k s).fits (beginF (resF k s)).am (beginF (resF k s)).nd)[i]? = some r → r.length = (resF k s).reqs.length := fun i r hr => by
    rw [eal] at hr
    have := List.mem_of_getElem? hr
    simp only [allocOf, List.mem_map, List.mem_range] at this
    obtain ⟨i', -, rfl⟩ := this
    rw [← hnr]
    simp [rowOf]
  rw [← eal] at hI ⊢
  rw [shipsOf]
  rw [hlen] at hI ⊢
  have s64 : (resF k s).sups.length ≤ 64 := by rw [(res_len k s).1]; exact hfb.1
  have r64 : (resF k s).reqs.length ≤ 64 := by rw [(res_len k s).2]; exact hfb.2.1
  have h2' := h2.mono RRq.mono (hm2.trans hm3)
  generalize alF (resF k s).fits (beginF (resF k s)).am (beginF (resF k s)).nd = am at hI hlen hrowl
  (repeat (first | ((with_reducible refine Tr.step rfl ?_); (first | (refine xmQ (z := ?_)) | (refine xaQ (z := ?_)) | (refine xlQ (z := ?_)) | (refine xfQ (z := ?_)) | (refine xnQ (z := ?_)) | (refine xiQ (z := ?_)) | ((with_reducible refine Knd.extract ?_); (refine Exec.stab rfl (Stab.extract rfl rfl) rfl ?_)))) | (with_reducible first | apply Tr.next | apply Tr.seq | apply Tr.region | apply Tr.nil | apply Tr.skip | apply Tr.block) | (refine Tr.cond_f rfl (by (with_reducible exact (not_not_intro rfl))) ?_)))
  refine Tr.less [(49, .int .i64 0), (48, .int .i64 ((resF k s).reqs.length : Int)), (47, .slice Ar (resF k s).reqs.length cr), (6, .slice none 0 0), (10, .slice B1 (resF k s).sups.length k1), (2, .int .i64 day)] F (by repeat (first | exact SubFr.nil | refine SubFr.cons rfl ?_)) (by repeat (first | exact DropL.refl | apply DropL.skip)) ?_
  clear hbe hmax hvv hfe hB0 h3 q1 q2 q3 q4 q5 q6 hdo h1 h2
  have hM3 := hm1.trans (hm2.trans hm3)
  generalize hY : resF k s = Y at s64 r64 h2' hI hlen hrowl
  refine Tr.own_nil 44 5 ?_
  refine Tr.loop (α := Nat × Option Addr × Nat) (fun y => ⟨84, [(49, .int .i64 (y.1 : Int)), (48, .int .i64 (Y.reqs.length : Int)), (47, .slice Ar Y.reqs.length cr), (6, .slice y.2.1 (shOut am Y.reqs day Y.sups.length y.1).length y.2.2), (10, .slice B1 Y.sups.length k1), (2, .int .i64 day)], [], M3,
      ownS 44 5 y.2.1 (shOut am Y.reqs day Y.sups.length y.1).length y.2.2 ((shOut am Y.reqs day Y.sups.length y.1).flatMap hpC) :: F⟩)
    (fun y => y.1 ≤ Y.reqs.length ∧ y.2.2 ≤ 9223372036854775807) (fun y => Y.reqs.length - y.1) (0, none, 0) ⟨Nat.zero_le _, by show (0 : Nat) ≤ _; omega⟩ hsQ (fun y hy => ?_)
  obtain ⟨j, A1, c1⟩ := y
  obtain ⟨hj, hc1⟩ := hy
  dsimp only at hj hc1
  dsimp only
  have hol := shOut_len am Y.reqs day Y.sups.length j
  have hol2 : j * Y.sups.length ≤ 64 * 64 := Nat.mul_le_mul (by omega) s64
  by_cases hlt : j < Y.reqs.length
  rotate_left
  · have ej : Y.reqs.length = j := by omega
    subst ej
    refine pbQ (r := ownS 44 5 A1 _ _ _) (k := fun M4 hm4 ok4 => ?_)
    have i4 := SlOf.ofOwn ok4 rfl hc1 (Elems.flat (R := RHp) hpC_len (fun _ => rfl) _)
    have hlast := hM3.trans hm4
    (repeat (first | ((with_reducible refine Tr.step rfl ?_); (first | (refine xmQ (z := ?_)) | (refine xaQ (z := ?_)) | (refine xiQ (z := ?_)))) | (with_reducible first | apply Tr.next | apply Tr.seq | apply Tr.region | apply Tr.nil | apply Tr.exit | apply Tr.ret | apply Tr.then_exit) | ((with_reducible refine Tr.in_exit ?_ ?_); (exact rfl)) | (refine Tr.cond_f rfl (by first | (with_reducible assumption) | omega) ?_)))
    (refine dnQ (hL := by exact ⟨[], rfl⟩) (k := ⟨rfl, ?_⟩))
    exact ⟨A1, c1, rfl, i4, hex⟩
  obtain ⟨r, hr⟩ := get_of_lt hlt
  obtain ⟨hA, ch, hat, rfl⟩ := h2'.elem hr
  have hnx := shOut_succ am Y.reqs day Y.sups.length j
  have hdue : (Y.reqs.map (·.due)).getD j 0 = r.due := by simp [List.getD_eq_getElem?_getD, hr]
  rw [hdue] at hnx
  by_cases hday : r.due = day
  rotate_left
  · rw [if_neg hday, List.append_nil] at hnx
    rw [← hnx]
    (repeat (first | ((with_reducible refine Tr.step rfl ?_); (first | (refine xmQ (z := ?_)) | (refine xaQ (z := ?_)) | ((with_reducible refine Knd.load ?_); (first | (refine xlQ (z := ?_)) | (refine Exec.stab rfl (Stab.loadMA rfl (tysOk.get rfl) rfl (by assumption) (by first | rfl | assumption)) rfl ?_))) | (refine xfQ (z := ?_)) | ((with_reducible refine Knd.binOp ?_); (first | (refine xdQ (z := ?_)) | (refine xiQ (z := ?_)))) | (refine xWQ (z := ?_)) | ((with_reducible refine Knd.alloc ?_); (refine Exec.alloc (tysOk.get rfl) rfl rfl (fun b => ?_))) | (refine xxQ (z := ?_)))) | (with_reducible first | apply Tr.next | apply Tr.seq | apply Tr.region | apply Tr.nil | apply Tr.skip | apply Tr.block | apply Tr.exit | apply Tr.then_exit) | ((with_reducible refine Tr.in_exit ?_ ?_); (exact rfl)) | (refine Tr.cond_t rfl (by first | (with_reducible assumption) | omega) ?_)))
    refine gvQ (r := box b _ _) (k := ?_)
    exact Tr.again (j + 1, A1, c1) ⟨by simp only; omega, hc1⟩ (by simp only; omega) hsQ
  rw [if_pos hday] at hnx
  (repeat (first | ((with_reducible refine Tr.step rfl ?_); (first | (refine xmQ (z := ?_)) | (refine xaQ (z := ?_)) | ((with_reducible refine Knd.load ?_); (first | (refine xlQ (z := ?_)) | (refine Exec.stab rfl (Stab.loadMA rfl (tysOk.get rfl) rfl (by assumption) (by first | rfl | assumption)) rfl ?_))) | (refine xfQ (z := ?_)) | (refine xnQ (z := ?_)) | (refine xiQ (z := ?_)) | (refine xWQ (z := ?_)) | ((with_reducible refine Knd.alloc ?_); (refine Exec.alloc (tysOk.get rfl) rfl rfl (fun b => ?_))) | (refine xxQ (z := ?_)))) | (with_reducible first | apply Tr.next | apply Tr.seq | apply Tr.region | apply Tr.nil | apply Tr.skip | apply Tr.block) | (refine Tr.cond_t rfl (by first | (with_reducible assumption) | omega) ?_) | (refine Tr.cond_f rfl (by omega) ?_)))
  refine gvQ (r := box b _ _) (k := ?_)
  generalize shOut am Y.reqs day Y.sups.length j = sj at hnx hol
  have ein : sj = sj ++ shIn am j day 0 := (List.append_nil _).symm
  rw [ein]
  refine Tr.loop (α := Nat × Option Addr × Nat) (fun y => ⟨84, [(60, .int .i64 (y.1 : Int)), (59, .int .i64 (Y.sups.length : Int)), (58, .slice B1 Y.sups.length k1), (13, .int .i64 (j : Int)), (49, .int .i64 (j : Int)), (48, .int .i64 (Y.reqs.length : Int)), (47, .slice Ar Y.reqs.length cr), (6, .slice y.2.1 (sj ++ shIn am j day y.1).length y.2.2), (10, .slice B1 Y.sups.length k1), (2, .int .i64 day)], [], M3,
      ownS 44 5 y.2.1 (sj ++ shIn am j day y.1).length y.2.2 ((sj ++ shIn am j day y.1).flatMap hpC) :: F⟩)
    (fun y => y.1 ≤ Y.sups.length ∧ y.2.2 ≤ 9223372036854775807) (fun y => Y.sups.length - y.1) (0, A1, c1) ⟨Nat.zero_le _, hc1⟩ hsQ (fun y hy => ?_)
  clear hc1
  obtain ⟨i, A2, c2⟩ := y
  obtain ⟨hi, hc2⟩ := hy
  dsimp only at hi hc2
  dsimp only
  have hil := shIn_len am j day i
  by_cases hlt2 : i < Y.sups.length
  rotate_left
  · have ei : Y.sups.length = i := by omega
    subst ei
    rw [← hnx]
    (repeat (first | ((with_reducible refine Tr.step rfl ?_); (first | (refine xmQ (z := ?_)) | ((with_reducible refine Knd.binOp ?_); (first | (refine xdQ (z := ?_)) | (refine xiQ (z := ?_)))))) | (with_reducible first | apply Tr.next | apply Tr.seq | apply Tr.region | apply Tr.nil | apply Tr.exit | apply Tr.then_exit | apply Tr.in_normal) | ((with_reducible refine Tr.in_exit ?_ ?_); (exact rfl)) | (refine Tr.cond_f rfl (by first | (with_reducible assumption) | omega) ?_)))
    exact Tr.again (j + 1, A2, c2) ⟨by simp only; omega, hc2⟩ (by simp only; omega) hsQ
  obtain ⟨row, hrow⟩ := get_of_lt (xs := am) (i := i) (by omega)
  obtain ⟨hA3, ch3, hat3, Aw, kw, rfl, hrI⟩ := hI.elem hrow
  have hrl := hrowl i row hrow
  obtain ⟨x, hx⟩ := get_of_lt (xs := row) (i := j) (by omega)
  obtain ⟨hA4, hat4⟩ := Ints.at hrI hx
  have hin := shIn_succ am j day i
  have hamv : amv am i j = x := by rw [amv, getD_of (d := []) hrow, getD_of (d := (0 : Int)) hx]
  rw [hamv] at hin
  by_cases hx0 : 0 < x
  · rw [if_pos hx0] at hin
    (repeat (first | ((with_reducible refine Tr.step rfl ?_); (first | (refine xmQ (z := ?_)) | (refine xaQ (z := ?_)) | (refine xMQ (z := ?_)) | (refine xiQ (z := ?_)) | (refine xxQ (z := ?_)) | ((with_reducible refine Knd.build ?_); (refine Exec.stab rfl (Stab.build tysOk rfl rfl rfl rfl (by repeat (first | exact BuildP.nil | ((apply BuildP.one); (rfl); (rfl); (first | rfl | assumption); (repeat (first | exact SetL.z | apply SetL.s)))))) rfl ?_)) | ((with_reducible refine Knd.buildSlice ?_); (refine Exec.buildSlice (tysOk.get rfl) rfl (tysOk.get rfl) rfl rfl rfl rfl rfl (by repeat (first | exact BuildP.nil | ((apply BuildP.many); (rfl); (rfl); (rfl); (rfl); (repeat (first | exact PutL.nil | ((apply PutL.cons); (repeat (first | exact SetL.z | apply SetL.s)))))))) rfl (fun b => ?_))))) | (with_reducible first | apply Tr.next | apply Tr.seq | apply Tr.region | apply Tr.nil | apply Tr.skip | apply Tr.block) | (refine Tr.cond_t rfl (by first | (with_reducible assumption) | omega) ?_)))
    ((refine Tr.step rfl ?_))
    refine Exec.append (news := hpC ⟨3, (i : Int), (j : Int), day, x⟩) rfl rfl (tysOk.get rfl) rfl (tysOk.get rfl) rfl rfl rfl rfl (by repeat (first | exact Del.here | apply Del.there)) (Src.box (by repeat (first | exact Has.here | apply Has.there))) rfl (by intro u hu; simp only [hpC, List.mem_cons, List.not_mem_nil, or_false] at hu; rcases hu with rfl | rfl | rfl | rfl | rfl <;> rfl) (by rw [List.length_append]; omega) (by rw [List.length_append]; omega) rfl (fun A7 c7 hc7 => ?_)
    refine gvQ (r := box b _ _) (k := ?_)
    rw [show (sj ++ shIn am j day i).flatMap hpC ++ hpC ⟨3, (i : Int), (j : Int), day, x⟩ = (sj ++ shIn am j day (i + 1)).flatMap hpC by rw [hin, ← List.append_assoc, List.flatMap_append (ys := [_])]; simp, show (sj ++ shIn am j day i).length + 1 = (sj ++ shIn am j day (i + 1)).length by rw [hin, List.length_append, List.length_append, List.length_append]; rfl]
    (repeat (first | ((with_reducible refine Tr.step rfl ?_); (first | (refine xmQ (z := ?_)) | (refine xaQ (z := ?_)) | (refine xdQ (z := ?_)))) | (with_reducible first | apply Tr.next | apply Tr.region | apply Tr.nil | apply Tr.in_normal)))
    exact Tr.again (i + 1, A7, c7) ⟨by simp only; omega, hc7⟩ (by simp only; omega) hsQ
  · rw [if_neg hx0, List.append_nil] at hin
    rw [← hin]
    (repeat (first | ((with_reducible refine Tr.step rfl ?_); (first | (refine xmQ (z := ?_)) | (refine xaQ (z := ?_)) | (refine xMQ (z := ?_)) | ((with_reducible refine Knd.binOp ?_); (first | (refine xdQ (z := ?_)) | (refine xiQ (z := ?_)))) | (refine xxQ (z := ?_)))) | (with_reducible first | apply Tr.next | apply Tr.seq | apply Tr.region | apply Tr.nil | apply Tr.skip | apply Tr.block | apply Tr.in_normal) | (refine Tr.cond_t rfl (by first | (with_reducible assumption) | omega) ?_) | (refine Tr.cond_f rfl (by (with_reducible assumption)) ?_)))
    exact Tr.again (i + 1, A2, c2) ⟨by simp only; omega, hc2⟩ (by simp only; omega) hsQ
end Go.Proofs.Ytgnipfjjkliibaa

/-
  Honour: lists compared, requests sought, amounts.
  Conditions: none.
-/
namespace Go.Proofs.Ytgnipfjjkliibaa
open Go Bf
attribute [local irreducible] Tr Exec Stab HasTy Go.Addr.add IntKind.wrap
theorem eq_upto {α : Type} {p q : List α} (hl : p.length = q.length) (h : ∀ t, t < p.length → p[t]? = q[t]?) : p = q := by
  apply List.ext_getElem?
  intro t
  by_cases ht : t < p.length
  · exact h t ht
  · rw [List.getElem?_eq_none (by omega), List.getElem?_eq_none (by omega)]
theorem upto_next {α : Type} {p q : List α} {i : Nat} (h : ∀ t, t < i → p[t]? = q[t]?) (e : p[i]? = q[i]?) : ∀ t, t < i + 1 → p[t]? = q[t]? := fun t ht => by
  by_cases e2 : t = i
  · rw [e2]; exact e
  · exact h t (by omega)
set_option maxHeartbeats 4000000 in
theorem sameInts_fn (M : Mem) (A B : Option Addr) (c d : Nat) (p q : List Int) (hp : Ints M (.slice A p.length c) p) (hq : Ints M (.slice B q.length d) q) :
    Fn0 Try.prog 38 [.slice A p.length c, .slice B q.length d] M (fun r M' => (∃ b : Bool, r = .bool b ∧ (b = true ↔ p = q)) ∧ M = M') := by
  have hpl := hp.len_le
  have hql := hq.len_le
  refine Fn.intro Try.func38 rfl rfl Try.ntmps38 rfl fun E F => ?_
  by_cases hl : p.length = q.length
  rotate_left
  · (repeat (first | ((with_reducible refine Tr.step rfl ?_); (first | (refine xmQ (z := ?_)) | (refine xaQ (z := ?_)) | (refine xnQ (z := ?_)) | (refine xiQ (z := ?_)))) | (with_reducible first | apply Tr.next | apply Tr.seq | apply Tr.region | apply Tr.nil | apply Tr.ret | apply Tr.then_ret) | (refine Tr.cond_t rfl (by first | (with_reducible assumption) | omega) ?_)))
    (refine dnQ (hL := by exact ⟨[], rfl⟩) (k := ⟨rfl, ?_⟩))
    exact ⟨⟨false, rfl, by simp only [Bool.false_eq_true, false_iff]; exact fun h => hl (congrArg _ h)⟩, rfl⟩
  (repeat (first | ((with_reducible refine Tr.step rfl ?_); (first | (refine xmQ (z := ?_)) | (refine xaQ (z := ?_)) | (refine xnQ (z := ?_)) | (refine xiQ (z := ?_)))) | (with_reducible first | apply Tr.next | apply Tr.seq | apply Tr.region | apply Tr.nil | apply Tr.skip | apply Tr.block) | (refine Tr.cond_f rfl (by omega) ?_)))
  refine Tr.loop (α := Nat) (fun y => ⟨26, [(5, .int .i64 (y : Int)), (0, .slice A p.length c), (1, .slice B q.length d)], [], M, [] ++ F⟩)
    (fun y => y ≤ p.length ∧ ∀ t, t < y → p[t]? = q[t]?) (fun y => p.length - y) 0 ⟨Nat.zero_le _, fun t ht => by omega⟩ hsQ (fun i hi => ?_)
  obtain ⟨hi, hall⟩ := hi
  by_cases hlt : i < p.length
  · obtain ⟨x, hx⟩ := get_of_lt hlt
    obtain ⟨y, hy⟩ := get_of_lt (xs := q) (i := i) (by omega)
    obtain ⟨hA, hatx⟩ := Ints.at hp hx
    obtain ⟨hB, haty⟩ := Ints.at hq hy
    (repeat (first | ((with_reducible refine Tr.step rfl ?_); (first | (refine xmQ (z := ?_)) | (refine xnQ (z := ?_)) | (refine xiQ (z := ?_)))) | (with_reducible first | apply Tr.next | apply Tr.seq | apply Tr.region | apply Tr.nil | apply Tr.skip | apply Tr.block) | (refine Tr.cond_t rfl (by first | (with_reducible assumption) | omega) ?_)))
    (((apply Tr.draw); (kernel_rfl)); (refine tkQ 0 (hB := by exact fun _ h => h) (s := by exact Stab.move rfl) (h := ?_)); (refine tkQ 1 (s := by exact Stab.move rfl) (h := ?_)); (refine tkQ 4 (s := by exact Stab.move rfl) (h := ?_)); (refine tkQ 5 (s := by exact Stab.move rfl) (h := ?_)); (refine tkQ 2 (s := by exact sxQ) (h := ?_)); (refine tkQ 6 (s := by exact sxQ) (h := ?_)); (refine tkQ 3 (s := by exact sMQ) (h := ?_)); (refine tkQ 7 (s := by exact sMQ) (h := ?_)); (refine tkQ 8 (s := by exact siQ) (h := ?_)); (refine TrA.done (by kernel_rfl) ?_))
    by_cases e : x = y
    · (repeat (first | ((with_reducible refine Tr.step rfl ?_); (first | (refine xmQ (z := ?_)) | (refine xaQ (z := ?_)) | (refine xdQ (z := ?_)))) | (with_reducible first | apply Tr.next | apply Tr.region | apply Tr.nil | apply Tr.skip | apply Tr.in_normal) | (refine Tr.cond_f rfl (by omega) ?_)))
      refine Tr.again (i + 1) ⟨by omega, upto_next hall (by rw [hx, hy, e])⟩ (by omega) hsQ
    · (repeat (first | ((with_reducible refine Tr.step rfl ?_); (with_reducible refine Knd.assign ?_); (refine xaQ (z := ?_))) | (with_reducible first | apply Tr.next | apply Tr.seq | apply Tr.region | apply Tr.nil | apply Tr.ret | apply Tr.then_ret | apply Tr.in_ret) | (refine Tr.cond_t rfl (by (with_reducible assumption)) ?_)))
      (refine dnQ (hL := by exact ⟨[], rfl⟩) (k := ⟨rfl, ?_⟩))
      refine ⟨⟨false, rfl, by simp only [Bool.false_eq_true, false_iff]; exact fun h => e (by rw [h, hy] at hx; exact (Option.some.inj hx).symm)⟩, rfl⟩
  have ei : p.length = i := by omega
  subst ei
  (repeat (first | ((with_reducible refine Tr.step rfl ?_); (first | (refine xmQ (z := ?_)) | (refine xaQ (z := ?_)) | (refine xnQ (z := ?_)) | (refine xiQ (z := ?_)))) | (with_reducible first | apply Tr.next | apply Tr.seq | apply Tr.region | apply Tr.nil | apply Tr.exit | apply Tr.ret | apply Tr.then_exit) | ((with_reducible refine Tr.in_exit ?_ ?_); (exact rfl)) | (refine Tr.cond_f rfl (by first | (with_reducible assumption) | omega) ?_)))
  (refine dnQ (hL := by exact ⟨[], rfl⟩) (k := ⟨rfl, ?_⟩))
  exact ⟨⟨true, rfl, by simp only [true_iff]; exact eq_upto hl hall⟩, rfl⟩
theorem nats__inj {p q : List Nat} : nats_ p = nats_ q ↔ p = q := by
  constructor
  · intro h
    exact List.map_inj_right (f := fun n : Nat => (n : Int)) (fun a b hab => by have h' : (a : Int) = b := hab; omega) |>.1 h
  · rintro rfl; rfl
set_option maxHeartbeats 8000000 in
theorem sameBroken_fn (M : Mem) (A B : Option Addr) (c d : Nat) (p q : List (Nat × List Nat)) (hp : SlOf 2 RBr M (.slice A p.length c) p) (hq : SlOf 2 RBr M (.slice B q.length d) q) :
    Fn0 Try.prog 18 [.slice A p.length c, .slice B q.length d] M (fun r M' => (∃ b : Bool, r = .bool b ∧ (b = true ↔ p = q)) ∧ M = M') := by
  have hpl := hp.len_le
  have hql := hq.len_le
  refine Fn.intro Try.func18 rfl rfl Try.ntmps18 rfl fun E F => ?_
  by_cases hl : p.length = q.length
  rotate_left
  · (repeat (first | ((with_reducible refine Tr.step rfl ?_); (first | (refine xmQ (z := ?_)) | (refine xaQ (z := ?_)) | (refine xnQ (z := ?_)) | (refine xiQ (z := ?_)))) | (with_reducible first | apply Tr.next | apply Tr.seq | apply Tr.region | apply Tr.nil | apply Tr.ret | apply Tr.then_ret) | (refine Tr.cond_t rfl (by first | (with_reducible assumption) | omega) ?_)))
    (refine dnQ (hL := by exact ⟨[], rfl⟩) (k := ⟨rfl, ?_⟩))
    exact ⟨⟨false, rfl, by simp only [Bool.false_eq_true, false_iff]; exact fun h => hl (congrArg _ h)⟩, rfl⟩
  (repeat (first | ((with_reducible refine Tr.step rfl ?_); (first | (refine xmQ (z := ?_)) | (refine xaQ (z := ?_)) | (refine xnQ (z := ?_)) | (refine xiQ (z := ?_)))) | (with_reducible first | apply Tr.next | apply Tr.seq | apply Tr.region | apply Tr.nil | apply Tr.skip | apply Tr.block) | (refine Tr.cond_f rfl (by omega) ?_)))
  refine Tr.loop (α := Nat) (fun y => ⟨42, [(5, .int .i64 (y : Int)), (0, .slice A p.length c), (1, .slice B q.length d)], [], M, [] ++ F⟩)
    (fun y => y ≤ p.length ∧ ∀ t, t < y → p[t]? = q[t]?) (fun y => p.length - y) 0 ⟨Nat.zero_le _, fun t ht => by omega⟩ hsQ (fun i hi => ?_)
  obtain ⟨hi, hall⟩ := hi
  by_cases hlt : i < p.length
  · obtain ⟨x, hx⟩ := get_of_lt hlt
    obtain ⟨y, hy⟩ := get_of_lt (xs := q) (i := i) (by omega)
    obtain ⟨hA, chx, hatx, Ax, nx, rfl, hIx⟩ := hp.elem hx
    obtain ⟨hB, chy, haty, Ay, ny, rfl, hIy⟩ := hq.elem hy
    have hx0 : At M (((A.getD default).add (i * 2)).add 0) [.int .i64 (x.1 : Int), .slice Ax x.2.length nx] := hatx.drop 0
    have hy0 : At M (((B.getD default).add (i * 2)).add 0) [.int .i64 (y.1 : Int), .slice Ay y.2.length ny] := haty.drop 0
    have hx1 : At M (((A.getD default).add (i * 2)).add 1) [.slice Ax x.2.length nx] := hatx.drop 1
    have hy1 : At M (((B.getD default).add (i * 2)).add 1) [.slice Ay y.2.length ny] := haty.drop 1
    have hsi := sameInts_fn M Ax Ay nx ny (nats_ x.2) (nats_ y.2) (by rw [nats__length]; exact hIx) (by rw [nats__length]; exact hIy)
    rw [nats__length, nats__length] at hsi
    have hne : x ≠ y → ¬ p = q := fun hn h => hn (by rw [h, hy] at hx; exact (Option.some.inj hx).symm)
    (repeat (first | ((with_reducible refine Tr.step rfl ?_); (first | (refine xmQ (z := ?_)) | (refine xnQ (z := ?_)) | (refine xiQ (z := ?_)))) | (with_reducible first | apply Tr.next | apply Tr.seq | apply Tr.region | apply Tr.nil | apply Tr.skip | apply Tr.block) | (refine Tr.cond_t rfl (by first | (with_reducible assumption) | omega) ?_)))
    (((apply Tr.draw); (kernel_rfl)); (refine tkQ 0 (hB := by exact fun _ h => h) (s := by exact Stab.move rfl) (h := ?_)); (refine tkQ 1 (s := by exact Stab.move rfl) (h := ?_)); (refine tkQ 5 (s := by exact Stab.move rfl) (h := ?_)); (refine tkQ 6 (s := by exact Stab.move rfl) (h := ?_)); (refine tkQ 2 (s := by exact sxQ) (h := ?_)); (refine tkQ 7 (s := by exact sxQ) (h := ?_)); (refine tkQ 3 (s := by exact Stab.fieldD rfl (tysOk.get rfl) rfl rfl (tysOk.get rfl) rfl) (h := ?_)); (refine tkQ 8 (s := by exact Stab.fieldD rfl (tysOk.get rfl) rfl rfl (tysOk.get rfl) rfl) (h := ?_)); (refine tkQ 4 (s := by exact sMQ) (h := ?_)); (refine tkQ 9 (s := by exact sMQ) (h := ?_)); (refine tkQ 10 (s := by exact siQ) (h := ?_)); (refine tkQ 11 (s := by exact Stab.move rfl) (h := ?_)))
    by_cases e1 : x.1 = y.1
    · have e1' : decide ((x.1 : Int) ≠ (y.1 : Int)) = false := decide_eq_false (fun h => h (by rw [e1]))
      rw [e1']
      (((refine tgQ 12 (s := by exact Stab.move rfl) (h := ?_))); ((refine tgQ 13 (s := by exact Stab.move rfl) (h := ?_))); ((refine tgQ 17 (s := by exact Stab.move rfl) (h := ?_))); ((refine tgQ 18 (s := by exact Stab.move rfl) (h := ?_))); ((refine tgQ 14 (s := by exact sxQ) (h := ?_))); ((refine tgQ 19 (s := by exact sxQ) (h := ?_))); ((refine tgQ 15 (s := by exact Stab.fieldD rfl (tysOk.get rfl) rfl rfl (tysOk.get rfl) rfl) (h := ?_))); ((refine tgQ 20 (s := by exact Stab.fieldD rfl (tysOk.get rfl) rfl rfl (tysOk.get rfl) rfl) (h := ?_))); ((refine tgQ 16 (s := by exact sMQ) (h := ?_))); ((refine tgQ 21 (s := by exact sMQ) (h := ?_))); (refine TrA.eff 22 rfl (by kernel_rfl) (by exact .inr ⟨_, _, _, rfl, rfl, rfl⟩) ?_))
      refine Exec.call0 rfl hsi rfl ?_
      rintro _ _ _ ⟨⟨bb, rfl, hbb⟩, rfl⟩
      refine ⟨Mem.le.refl _, (by exact fun _ h => h), ?_⟩
      rw [nats__inj] at hbb
      cases bb
      · (((refine tgQ 23 (s := by exact Stab.not rfl) (h := ?_))); (refine tkQ 24 (s := by exact Stab.pick_f rfl (by (with_reducible rfl)) rfl) (h := ?_)); (refine TrA.done (by kernel_rfl) ?_))
        (repeat (first | ((with_reducible refine Tr.step rfl ?_); (with_reducible refine Knd.assign ?_); (refine xaQ (z := ?_))) | (with_reducible first | apply Tr.next | apply Tr.seq | apply Tr.region | apply Tr.nil | apply Tr.ret | apply Tr.then_ret | apply Tr.in_ret) | (refine Tr.cond_bt rfl (by first | (with_reducible rfl) | (with_reducible exact Bool.not_false)) ?_)))
        (refine dnQ (hL := by exact ⟨[], rfl⟩) (k := ⟨rfl, ?_⟩))
        exact ⟨⟨false, rfl, by simp only [Bool.false_eq_true, false_iff]; exact hne (fun h => by have := hbb.2 (by rw [h]); cases this)⟩, rfl⟩
      · (((refine tgQ 23 (s := by exact Stab.not rfl) (h := ?_))); (refine tkQ 24 (s := by exact Stab.pick_f rfl (by (with_reducible rfl)) rfl) (h := ?_)); (refine TrA.done (by kernel_rfl) ?_))
        (repeat (first | ((with_reducible refine Tr.step rfl ?_); (first | (refine xmQ (z := ?_)) | (refine xaQ (z := ?_)) | (refine xdQ (z := ?_)))) | (with_reducible first | apply Tr.next | apply Tr.region | apply Tr.nil | apply Tr.skip | apply Tr.in_normal) | (refine Tr.cond_bf rfl (by first | (with_reducible rfl) | (with_reducible exact Bool.not_true)) ?_)))
        have exy : x = y := Prod.ext e1 (hbb.1 rfl)
        exact Tr.again (i + 1) ⟨by omega, upto_next hall (by rw [hx, hy, exy])⟩ (by omega) hsQ
    · have e1' : decide ((x.1 : Int) ≠ (y.1 : Int)) = true := decide_eq_true (fun h => e1 (by omega))
      rw [e1']
      (((refine tuQ 12 (h := ?_))); ((refine tuQ 13 (h := ?_))); ((refine tuQ 17 (h := ?_))); ((refine tuQ 18 (h := ?_))); ((refine tuQ 14 (h := ?_))); ((refine tuQ 19 (h := ?_))); ((refine tuQ 15 (h := ?_))); ((refine tuQ 20 (h := ?_))); ((refine tuQ 16 (h := ?_))); ((refine tuQ 21 (h := ?_))); ((refine tuQ 22 (h := ?_))); ((refine tuQ 23 (h := ?_))); (refine tkQ 24 (s := by exact Stab.pick_t rfl (by (with_reducible rfl)) rfl) (h := ?_)); (refine TrA.done (by kernel_rfl) ?_))
      (repeat (first | ((with_reducible refine Tr.step rfl ?_); (with_reducible refine Knd.assign ?_); (refine xaQ (z := ?_))) | (with_reducible first | apply Tr.next | apply Tr.seq | apply Tr.region | apply Tr.nil | apply Tr.ret | apply Tr.then_ret | apply Tr.in_ret) | (refine Tr.cond_bt rfl (by (with_reducible rfl)) ?_)))
      (refine dnQ (hL := by exact ⟨[], rfl⟩) (k := ⟨rfl, ?_⟩))
      exact ⟨⟨false, rfl, by simp only [Bool.false_eq_true, false_iff]; exact hne (fun h => e1 (by rw [h]))⟩, rfl⟩
  have ei : p.length = i := by omega
  subst ei
  (repeat (first | ((with_reducible refine Tr.step rfl ?_); (first | (refine xmQ (z := ?_)) | (refine xaQ (z := ?_)) | (refine xnQ (z := ?_)) | (refine xiQ (z := ?_)))) | (with_reducible first | apply Tr.next | apply Tr.seq | apply Tr.region | apply Tr.nil | apply Tr.exit | apply Tr.ret | apply Tr.then_exit) | ((with_reducible refine Tr.in_exit ?_ ?_); (exact rfl)) | (refine Tr.cond_f rfl (by first | (with_reducible assumption) | omega) ?_)))
  (refine dnQ (hL := by exact ⟨[], rfl⟩) (k := ⟨rfl, ?_⟩))
  exact ⟨⟨true, rfl, by simp only [true_iff]; exact eq_upto hl hall⟩, rfl⟩
def hpI (h : Hp) : List Int := [h.kind, h.sup, h.req, h.day, h.amt]
theorem hpI_inj {x y : Hp} : hpI x = hpI y ↔ x = y := by
  constructor
  · intro h
    obtain ⟨a1, a2, a3, a4, a5⟩ := x
    obtain ⟨b1, b2, b3, b4, b5⟩ := y
    simp only [hpI, List.cons.injEq, and_true] at h
    obtain ⟨rfl, rfl, rfl, rfl, rfl⟩ := h
    rfl
  · rintro rfl; rfl
set_option maxHeartbeats 8000000 in
theorem sameHap_fn (M : Mem) (A B : Option Addr) (c d : Nat) (p q : List Hp) (hp : SlOf 5 RHp M (.slice A p.length c) p) (hq : SlOf 5 RHp M (.slice B q.length d) q) :
    Fn0 Try.prog 19 [.slice A p.length c, .slice B q.length d] M (fun r M' => (∃ b : Bool, r = .bool b ∧ (b = true ↔ p = q)) ∧ M = M') := by
  have hpl := hp.len_le
  have hql := hq.len_le
  refine Fn.intro Try.func19 rfl rfl Try.ntmps19 rfl fun E F => ?_
  by_cases hl : p.length = q.length
  rotate_left
  · (repeat (first | ((with_reducible refine Tr.step rfl ?_); (first | (refine xmQ (z := ?_)) | (refine xaQ (z := ?_)) | (refine xnQ (z := ?_)) | (refine xiQ (z := ?_)))) | (with_reducible first | apply Tr.next | apply Tr.seq | apply Tr.region | apply Tr.nil | apply Tr.ret | apply Tr.then_ret) | (refine Tr.cond_t rfl (by first | (with_reducible assumption) | omega) ?_)))
    (refine dnQ (hL := by exact ⟨[], rfl⟩) (k := ⟨rfl, ?_⟩))
    exact ⟨⟨false, rfl, by simp only [Bool.false_eq_true, false_iff]; exact fun h => hl (congrArg _ h)⟩, rfl⟩
  (repeat (first | ((with_reducible refine Tr.step rfl ?_); (first | (refine xmQ (z := ?_)) | (refine xaQ (z := ?_)) | (refine xnQ (z := ?_)) | (refine xiQ (z := ?_)))) | (with_reducible first | apply Tr.next | apply Tr.seq | apply Tr.region | apply Tr.nil | apply Tr.skip | apply Tr.block) | (refine Tr.cond_f rfl (by omega) ?_)))
  refine Tr.loop (α := Nat) (fun y => ⟨26, [(5, .int .i64 (y : Int)), (0, .slice A p.length c), (1, .slice B q.length d)], [], M, [] ++ F⟩)
    (fun y => y ≤ p.length ∧ ∀ t, t < y → p[t]? = q[t]?) (fun y => p.length - y) 0 ⟨Nat.zero_le _, fun t ht => by omega⟩ hsQ (fun i hi => ?_)
  obtain ⟨hi, hall⟩ := hi
  by_cases hlt : i < p.length
  · obtain ⟨x, hx⟩ := get_of_lt hlt
    obtain ⟨y, hy⟩ := get_of_lt (xs := q) (i := i) (by omega)
    obtain ⟨hA, chx, hatx, rfl⟩ := hp.elem hx
    obtain ⟨hB, chy, haty, rfl⟩ := hq.elem hy
    have hne : x ≠ y → ¬ p = q := fun hn h => hn (by rw [h, hy] at hx; exact (Option.some.inj hx).symm)
    (repeat (first | ((with_reducible refine Tr.step rfl ?_); (first | (refine xmQ (z := ?_)) | (refine xnQ (z := ?_)) | (refine xiQ (z := ?_)))) | (with_reducible first | apply Tr.next | apply Tr.seq | apply Tr.region | apply Tr.nil | apply Tr.skip | apply Tr.block) | (refine Tr.cond_t rfl (by first | (with_reducible assumption) | omega) ?_)))
    (((apply Tr.draw); (kernel_rfl)); (refine tkQ 0 (hB := by exact fun _ h => h) (s := by exact Stab.move rfl) (h := ?_)); (refine tkQ 1 (s := by exact Stab.move rfl) (h := ?_)); (refine tkQ 4 (s := by exact Stab.move rfl) (h := ?_)); (refine tkQ 5 (s := by exact Stab.move rfl) (h := ?_)); (refine tkQ 2 (s := by exact sxQ) (h := ?_)); (refine tkQ 6 (s := by exact sxQ) (h := ?_)); (refine tkQ 3 (s := by exact Stab.loadMA rfl (tysOk.get rfl) rfl (by assumption) (by first | rfl | assumption)) (h := ?_)); (refine tkQ 7 (s := by exact Stab.loadMA rfl (tysOk.get rfl) rfl (by assumption) (by first | rfl | assumption)) (h := ?_)); ((refine tkQ 8 (s := (Stab.stne (hpI x) (hpI y) rfl rfl (tysOk.get rfl) rfl (tysOk.get (t := 3) rfl) rfl rfl (by kernel_rfl) (by kernel_rfl) rfl rfl)) (h := ?_))); (refine TrA.done (by kernel_rfl) ?_))
    by_cases e : x = y
    · have e2 : ¬ (hpI x ≠ hpI y) := fun h => h (hpI_inj.2 e)
      (repeat (first | ((with_reducible refine Tr.step rfl ?_); (first | (refine xmQ (z := ?_)) | (refine xaQ (z := ?_)) | (refine xdQ (z := ?_)))) | (with_reducible first | apply Tr.next | apply Tr.region | apply Tr.nil | apply Tr.skip | apply Tr.in_normal) | (refine Tr.cond_f rfl (by (with_reducible assumption)) ?_)))
      exact Tr.again (i + 1) ⟨by omega, upto_next hall (by rw [hx, hy, e])⟩ (by omega) hsQ
    · have e2 : hpI x ≠ hpI y := fun h => e (hpI_inj.1 h)
      (repeat (first | ((with_reducible refine Tr.step rfl ?_); (with_reducible refine Knd.assign ?_); (refine xaQ (z := ?_))) | (with_reducible first | apply Tr.next | apply Tr.seq | apply Tr.region | apply Tr.nil | apply Tr.ret | apply Tr.then_ret | apply Tr.in_ret) | (refine Tr.cond_t rfl (by (with_reducible assumption)) ?_)))
      (refine dnQ (hL := by exact ⟨[], rfl⟩) (k := ⟨rfl, ?_⟩))
      exact ⟨⟨false, rfl, by simp only [Bool.false_eq_true, false_iff]; exact hne e⟩, rfl⟩
  have ei : p.length = i := by omega
  subst ei
  (repeat (first | ((with_reducible refine Tr.step rfl ?_); (first | (refine xmQ (z := ?_)) | (refine xaQ (z := ?_)) | (refine xnQ (z := ?_)) | (refine xiQ (z := ?_)))) | (with_reducible first | apply Tr.next | apply Tr.seq | apply Tr.region | apply Tr.nil | apply Tr.exit | apply Tr.ret | apply Tr.then_exit) | ((with_reducible refine Tr.in_exit ?_ ?_); (exact rfl)) | (refine Tr.cond_f rfl (by first | (with_reducible assumption) | omega) ?_)))
  (refine dnQ (hL := by exact ⟨[], rfl⟩) (k := ⟨rfl, ?_⟩))
  exact ⟨⟨true, rfl, by simp only [true_iff]; exact eq_upto hl hall⟩, rfl⟩
end Go.Proofs.Ytgnipfjjkliibaa

/-
  Honour: books compared.
  Conditions: none.
-/
namespace Go.Proofs.Ytgnipfjjkliibaa
open Go Bf
attribute [local irreducible] Tr Exec Stab HasTy Go.Addr.add IntKind.wrap
def spI (y : Sp) : List Int := [y.no, y.item, y.plant, y.ready, y.expiry, y.amount]
def rqI (y : Rq) : List Int := [y.no, y.item, y.cust, y.due, y.shelf, y.amount]
theorem spI_inj {x y : Sp} : spI x = spI y ↔ x = y := by
  constructor
  · intro h
    obtain ⟨a1, a2, a3, a4, a5, a6⟩ := x
    obtain ⟨b1, b2, b3, b4, b5, b6⟩ := y
    simp only [spI, List.cons.injEq, and_true] at h
    obtain ⟨rfl, rfl, rfl, rfl, rfl, rfl⟩ := h
    rfl
  · rintro rfl; rfl
theorem rqI_inj {x y : Rq} : rqI x = rqI y ↔ x = y := by
  constructor
  · intro h
    obtain ⟨a1, a2, a3, a4, a5, a6⟩ := x
    obtain ⟨b1, b2, b3, b4, b5, b6⟩ := y
    simp only [rqI, List.cons.injEq, and_true] at h
    obtain ⟨rfl, rfl, rfl, rfl, rfl, rfl⟩ := h
    rfl
  · rintro rfl; rfl
set_option maxHeartbeats 16000000 in
theorem sameBook_fn (M : Mem) (v w : Value) (p q : Bk) (hp : RBk M v p) (hq : RBk M w q) :
    Fn0 Try.prog 17 [v, w] M (fun r M' => (∃ b : Bool, r = .bool b ∧ (b = true ↔ p = q)) ∧ M = M') := by
  obtain ⟨As, cs, Ar, cr, Af, cf, Ad, cd, rfl, h1, h2, h3⟩ := hp
  obtain ⟨Bs, ds, Br, dr, Bf, df, Bd, dd, rfl, q1, q2, q3⟩ := hq
  have l1 := h1.len_le
  have l2 := h2.len_le
  have l3 := h3.len_le
  have l4 := q1.len_le
  have l5 := q2.len_le
  have l6 := q3.len_le
  refine Fn.intro Try.func17 rfl rfl Try.ntmps17 rfl fun E F => ?_
  by_cases c1 : p.known = q.known
  rotate_left
  · (repeat (first | ((with_reducible refine Tr.step rfl ?_); (first | (refine xmQ (z := ?_)) | (refine xaQ (z := ?_)) | (refine xlQ (z := ?_)) | (refine xfQ (z := ?_)) | (refine xiQ (z := ?_)) | ((with_reducible refine Knd.pick ?_); (first | (refine Exec.stab rfl (Stab.pick_t rfl (by (with_reducible rfl)) rfl) rfl ?_) | (refine Exec.stab rfl (Stab.pick_td rfl (by (with_reducible assumption)) rfl) rfl ?_))) | ((with_reducible refine Knd.box ?_); (refine Exec.box rfl rfl (fun b => ?_))))) | (with_reducible first | apply Tr.next | apply Tr.seq | apply Tr.region | apply Tr.nil) | (refine Tr.guard_s0 rfl rfl rfl (by (with_reducible rfl)) rfl rfl ?_) | (refine Tr.guard_n' rfl rfl rfl (by (with_reducible assumption)) rfl rfl ?_) | (with_reducible first | apply Tr.ret | apply Tr.then_ret) | (refine Tr.cond_bt rfl (by (with_reducible rfl)) ?_)))
    (refine dnQ (hL := by exact ⟨[_, _], rfl⟩) (k := ⟨rfl, ?_⟩))
    exact ⟨⟨false, rfl, by simp only [Bool.false_eq_true, false_iff]; exact fun h => c1 (by rw [h])⟩, rfl⟩
  by_cases c2 : p.sups.length = q.sups.length
  rotate_left
  · (repeat (first | ((with_reducible refine Tr.step rfl ?_); (first | (refine xmQ (z := ?_)) | (refine xaQ (z := ?_)) | (refine xlQ (z := ?_)) | (refine xfQ (z := ?_)) | (refine xiQ (z := ?_)) | ((with_reducible refine Knd.pick ?_); (first | (refine Exec.stab rfl (Stab.pick_t rfl (by (with_reducible rfl)) rfl) rfl ?_) | (refine Exec.stab rfl (Stab.pick_td rfl (by omega) rfl) rfl ?_) | (refine Exec.stab rfl (Stab.pick_fd rfl (by omega) rfl) rfl ?_))) | ((with_reducible refine Knd.box ?_); (refine Exec.box rfl rfl (fun b => ?_))))) | (with_reducible first | apply Tr.next | apply Tr.seq | apply Tr.region | apply Tr.nil) | (refine Tr.guard_s0 rfl rfl rfl (by (with_reducible rfl)) rfl rfl ?_) | ((refine Tr.guard_y' rfl rfl rfl (by first | (with_reducible assumption) | omega) ?_); (first | (refine xlQ (z := ?_)) | (refine xfQ (z := ?_)) | (refine xnQ (z := ?_)) | (refine xiQ (z := ?_)))) | (refine Tr.guard_n' rfl rfl rfl (by first | (with_reducible assumption) | omega) rfl rfl ?_) | (with_reducible first | apply Tr.ret | apply Tr.then_ret) | (refine Tr.cond_bt rfl (by (with_reducible rfl)) ?_)))
    (refine dnQ (hL := by exact ⟨[_, _], rfl⟩) (k := ⟨rfl, ?_⟩))
    exact ⟨⟨false, rfl, by simp only [Bool.false_eq_true, false_iff]; exact fun h => c2 (by rw [h])⟩, rfl⟩
  by_cases c3 : p.reqs.length = q.reqs.length
  rotate_left
  · (repeat (first | ((with_reducible refine Tr.step rfl ?_); (first | (refine xmQ (z := ?_)) | (refine xaQ (z := ?_)) | (refine xlQ (z := ?_)) | (refine xfQ (z := ?_)) | (refine xiQ (z := ?_)) | ((with_reducible refine Knd.pick ?_); (first | (refine Exec.stab rfl (Stab.pick_t rfl (by (with_reducible rfl)) rfl) rfl ?_) | (refine Exec.stab rfl (Stab.pick_td rfl (by omega) rfl) rfl ?_) | (refine Exec.stab rfl (Stab.pick_fd rfl (by omega) rfl) rfl ?_))) | ((with_reducible refine Knd.box ?_); (refine Exec.box rfl rfl (fun b => ?_))))) | (with_reducible first | apply Tr.next | apply Tr.seq | apply Tr.region | apply Tr.nil) | (refine Tr.guard_s0 rfl rfl rfl (by (with_reducible rfl)) rfl rfl ?_) | ((refine Tr.guard_y' rfl rfl rfl (by first | (with_reducible assumption) | omega) ?_); (first | (refine xlQ (z := ?_)) | (refine xfQ (z := ?_)) | (refine xnQ (z := ?_)) | (refine xiQ (z := ?_)))) | (refine Tr.guard_n' rfl rfl rfl (by first | (with_reducible assumption) | omega) rfl rfl ?_) | (with_reducible first | apply Tr.ret | apply Tr.then_ret) | (refine Tr.cond_bt rfl (by (with_reducible rfl)) ?_)))
    (refine dnQ (hL := by exact ⟨[_, _], rfl⟩) (k := ⟨rfl, ?_⟩))
    exact ⟨⟨false, rfl, by simp only [Bool.false_eq_true, false_iff]; exact fun h => c3 (by rw [h])⟩, rfl⟩
  by_cases c4 : p.fits.length = q.fits.length
  rotate_left
  · (repeat (first | ((with_reducible refine Tr.step rfl ?_); (first | (refine xmQ (z := ?_)) | (refine xaQ (z := ?_)) | (refine xlQ (z := ?_)) | (refine xfQ (z := ?_)) | (refine xiQ (z := ?_)) | ((with_reducible refine Knd.pick ?_); (first | (refine Exec.stab rfl (Stab.pick_td rfl (by omega) rfl) rfl ?_) | (refine Exec.stab rfl (Stab.pick_fd rfl (by omega) rfl) rfl ?_))) | ((with_reducible refine Knd.box ?_); (refine Exec.box rfl rfl (fun b => ?_))))) | (with_reducible first | apply Tr.next | apply Tr.seq | apply Tr.region | apply Tr.nil) | ((refine Tr.guard_y' rfl rfl rfl (by first | (with_reducible assumption) | omega) ?_); (first | (refine xlQ (z := ?_)) | (refine xfQ (z := ?_)) | (refine xnQ (z := ?_)) | (refine xiQ (z := ?_)))) | (refine Tr.guard_n' rfl rfl rfl (by first | (with_reducible assumption) | omega) rfl rfl ?_) | (with_reducible first | apply Tr.ret | apply Tr.then_ret) | (refine Tr.cond_bt rfl (by (with_reducible rfl)) ?_)))
    (refine dnQ (hL := by exact ⟨[_, _], rfl⟩) (k := ⟨rfl, ?_⟩))
    exact ⟨⟨false, rfl, by simp only [Bool.false_eq_true, false_iff]; exact fun h => c4 (by rw [h])⟩, rfl⟩
  by_cases c5 : p.reads = q.reads
  rotate_left
  · (repeat (first | ((with_reducible refine Tr.step rfl ?_); (first | (refine xmQ (z := ?_)) | (refine xaQ (z := ?_)) | (refine xlQ (z := ?_)) | (refine xfQ (z := ?_)) | (refine xiQ (z := ?_)) | ((with_reducible refine Knd.pick ?_); (refine Exec.stab rfl (Stab.pick_fd rfl (by omega) rfl) rfl ?_)) | ((with_reducible refine Knd.box ?_); (refine Exec.box rfl rfl (fun b => ?_))))) | (with_reducible first | apply Tr.next | apply Tr.seq | apply Tr.region | apply Tr.nil) | ((refine Tr.guard_y' rfl rfl rfl (by first | (with_reducible assumption) | omega) ?_); (first | (refine xlQ (z := ?_)) | (refine xfQ (z := ?_)) | (refine xnQ (z := ?_)) | (refine xiQ (z := ?_)))) | (with_reducible first | apply Tr.ret | apply Tr.then_ret) | (refine Tr.cond_t rfl (by first | (with_reducible assumption) | omega) ?_)))
    (refine dnQ (hL := by exact ⟨[_, _], rfl⟩) (k := ⟨rfl, ?_⟩))
    exact ⟨⟨false, rfl, by simp only [Bool.false_eq_true, false_iff]; exact fun h => c5 (by rw [h])⟩, rfl⟩
  (repeat (first | ((with_reducible refine Tr.step rfl ?_); (first | (refine xmQ (z := ?_)) | (refine xaQ (z := ?_)) | (refine xlQ (z := ?_)) | (refine xfQ (z := ?_)) | (refine xiQ (z := ?_)) | ((with_reducible refine Knd.pick ?_); (refine Exec.stab rfl (Stab.pick_fd rfl (by omega) rfl) rfl ?_)) | ((with_reducible refine Knd.box ?_); (refine Exec.box rfl rfl (fun b => ?_))))) | (with_reducible first | apply Tr.next | apply Tr.seq | apply Tr.region | apply Tr.nil) | ((refine Tr.guard_y' rfl rfl rfl (by omega) ?_); (first | (refine xlQ (z := ?_)) | (refine xfQ (z := ?_)) | (refine xnQ (z := ?_)) | (refine xiQ (z := ?_)))) | (with_reducible first | apply Tr.skip | apply Tr.block) | (refine Tr.cond_f rfl (by omega) ?_)))
  generalize b = b3
  rename_i b2
  refine Tr.loop (α := Nat) (fun y => ⟨133, [(5, .int .i64 (y : Int)), (3, .pointer (some ⟨b3, 0, none⟩)), (2, .pointer (some ⟨b2, 0, none⟩))], [], M, box b3 27 [.int .i64 q.known, .slice Bs q.sups.length ds, .slice Br q.reqs.length dr, .slice Bf q.fits.length df, .slice Bd q.reads dd] :: box b2 27 [.int .i64 p.known, .slice As p.sups.length cs, .slice Ar p.reqs.length cr, .slice Af p.fits.length cf, .slice Ad p.reads cd] :: ([] ++ F)⟩)
    (fun y => y ≤ p.sups.length ∧ ∀ t, t < y → p.sups[t]? = q.sups[t]?) (fun y => p.sups.length - y) 0 ⟨Nat.zero_le _, fun t ht => by omega⟩ hsQ (fun i hi => ?_)
  obtain ⟨hi, hall⟩ := hi
  by_cases hlt : i < p.sups.length
  · obtain ⟨x, hx⟩ := get_of_lt hlt
    obtain ⟨y, hy⟩ := get_of_lt (xs := q.sups) (i := i) (by omega)
    obtain ⟨hA, chx, hatx, rfl⟩ := h1.elem hx
    obtain ⟨hB, chy, haty, rfl⟩ := q1.elem hy
    have hne : x ≠ y → ¬ p = q := fun hn h => hn (by rw [h, hy] at hx; exact (Option.some.inj hx).symm)
    (repeat (first | ((with_reducible refine Tr.step rfl ?_); (first | (refine xmQ (z := ?_)) | (refine xlQ (z := ?_)) | (refine xfQ (z := ?_)) | (refine xnQ (z := ?_)) | (refine xiQ (z := ?_)))) | (with_reducible first | apply Tr.next | apply Tr.seq | apply Tr.region | apply Tr.nil | apply Tr.skip | apply Tr.block) | (refine Tr.cond_t rfl (by first | (with_reducible assumption) | omega) ?_)))
    (((apply Tr.draw); (kernel_rfl)); (refine tkQ 0 (hB := by exact fun _ h => h) (s := by exact sfQ) (h := ?_)); (refine tkQ 2 (s := by exact Stab.move rfl) (h := ?_)); (refine tkQ 5 (s := by exact sfQ) (h := ?_)); (refine tkQ 7 (s := by exact Stab.move rfl) (h := ?_)); (refine tkQ 1 (s := by exact slQ) (h := ?_)); (refine tkQ 6 (s := by exact slQ) (h := ?_)); (refine tkQ 3 (s := by exact sxQ) (h := ?_)); (refine tkQ 8 (s := by exact sxQ) (h := ?_)); (refine tkQ 4 (s := by exact Stab.loadMA rfl (tysOk.get rfl) rfl (by assumption) (by first | rfl | assumption)) (h := ?_)); (refine tkQ 9 (s := by exact Stab.loadMA rfl (tysOk.get rfl) rfl (by assumption) (by first | rfl | assumption)) (h := ?_)); ((refine tkQ 10 (s := (Stab.stne (spI x) (spI y) rfl rfl (tysOk.get rfl) rfl (tysOk.get (t := 3) rfl) rfl rfl (by kernel_rfl) (by kernel_rfl) rfl rfl)) (h := ?_))); (refine TrA.done (by kernel_rfl) ?_))
    by_cases e : x = y
    · have e2 : ¬ (spI x ≠ spI y) := fun h => h (spI_inj.2 e)
      (repeat (first | ((with_reducible refine Tr.step rfl ?_); (first | (refine xmQ (z := ?_)) | (refine xaQ (z := ?_)) | (refine xdQ (z := ?_)))) | (with_reducible first | apply Tr.next | apply Tr.region | apply Tr.nil | apply Tr.skip | apply Tr.in_normal) | (refine Tr.cond_f rfl (by (with_reducible assumption)) ?_)))
      exact Tr.again (i + 1) ⟨by omega, upto_next hall (by rw [hx, hy, e])⟩ (by omega) hsQ
    · have e2 : spI x ≠ spI y := fun h => e (spI_inj.1 h)
      (repeat (first | ((with_reducible refine Tr.step rfl ?_); (with_reducible refine Knd.assign ?_); (refine xaQ (z := ?_))) | (with_reducible first | apply Tr.next | apply Tr.seq | apply Tr.region | apply Tr.nil | apply Tr.ret | apply Tr.then_ret | apply Tr.in_ret) | (refine Tr.cond_t rfl (by (with_reducible assumption)) ?_)))
      (refine dnQ (hL := by exact ⟨[_, _], rfl⟩) (k := ⟨rfl, ?_⟩))
      exact ⟨⟨false, rfl, by simp only [Bool.false_eq_true, false_iff]; exact hne e⟩, rfl⟩
  have ei : p.sups.length = i := by omega
  subst ei
  have es := eq_upto c2 hall
  clear hall hlt hi
  (repeat (first | ((with_reducible refine Tr.step rfl ?_); (first | (refine xmQ (z := ?_)) | (refine xaQ (z := ?_)) | (refine xlQ (z := ?_)) | (refine xfQ (z := ?_)) | (refine xnQ (z := ?_)) | (refine xiQ (z := ?_)))) | (with_reducible first | apply Tr.next | apply Tr.seq | apply Tr.region | apply Tr.nil | apply Tr.block | apply Tr.exit | apply Tr.then_exit) | ((with_reducible refine Tr.in_exit ?_ ?_); (exact rfl)) | (refine Tr.cond_f rfl (by omega) ?_)))
  refine Tr.loop (α := Nat) (fun y => ⟨133, [(6, .int .i64 (y : Int)), (3, .pointer (some ⟨b3, 0, none⟩)), (2, .pointer (some ⟨b2, 0, none⟩))], [], M, box b3 27 [.int .i64 q.known, .slice Bs q.sups.length ds, .slice Br q.reqs.length dr, .slice Bf q.fits.length df, .slice Bd q.reads dd] :: box b2 27 [.int .i64 p.known, .slice As p.sups.length cs, .slice Ar p.reqs.length cr, .slice Af p.fits.length cf, .slice Ad p.reads cd] :: ([] ++ F)⟩)
    (fun y => y ≤ p.reqs.length ∧ ∀ t, t < y → p.reqs[t]? = q.reqs[t]?) (fun y => p.reqs.length - y) 0 ⟨Nat.zero_le _, fun t ht => by omega⟩ hsQ (fun i hi => ?_)
  obtain ⟨hi, hall⟩ := hi
  by_cases hlt : i < p.reqs.length
  · obtain ⟨x, hx⟩ := get_of_lt hlt
    obtain ⟨y, hy⟩ := get_of_lt (xs := q.reqs) (i := i) (by omega)
    obtain ⟨hA, chx, hatx, rfl⟩ := h2.elem hx
    obtain ⟨hB, chy, haty, rfl⟩ := q2.elem hy
    have hne : x ≠ y → ¬ p = q := fun hn h => hn (by rw [h, hy] at hx; exact (Option.some.inj hx).symm)
    (repeat (first | ((with_reducible refine Tr.step rfl ?_); (first | (refine xmQ (z := ?_)) | (refine xlQ (z := ?_)) | (refine xfQ (z := ?_)) | (refine xnQ (z := ?_)) | (refine xiQ (z := ?_)))) | (with_reducible first | apply Tr.next | apply Tr.seq | apply Tr.region | apply Tr.nil | apply Tr.skip | apply Tr.block) | (refine Tr.cond_t rfl (by first | (with_reducible assumption) | omega) ?_)))
    (((apply Tr.draw); (kernel_rfl)); (refine tkQ 0 (hB := by exact fun _ h => h) (s := by exact sfQ) (h := ?_)); (refine tkQ 2 (s := by exact Stab.move rfl) (h := ?_)); (refine tkQ 5 (s := by exact sfQ) (h := ?_)); (refine tkQ 7 (s := by exact Stab.move rfl) (h := ?_)); (refine tkQ 1 (s := by exact slQ) (h := ?_)); (refine tkQ 6 (s := by exact slQ) (h := ?_)); (refine tkQ 3 (s := by exact sxQ) (h := ?_)); (refine tkQ 8 (s := by exact sxQ) (h := ?_)); (refine tkQ 4 (s := by exact Stab.loadMA rfl (tysOk.get rfl) rfl (by assumption) (by first | rfl | assumption)) (h := ?_)); (refine tkQ 9 (s := by exact Stab.loadMA rfl (tysOk.get rfl) rfl (by assumption) (by first | rfl | assumption)) (h := ?_)); ((refine tkQ 10 (s := (Stab.stne (rqI x) (rqI y) rfl rfl (tysOk.get rfl) rfl (tysOk.get (t := 3) rfl) rfl rfl (by kernel_rfl) (by kernel_rfl) rfl rfl)) (h := ?_))); (refine TrA.done (by kernel_rfl) ?_))
    by_cases e : x = y
    · have e2 : ¬ (rqI x ≠ rqI y) := fun h => h (rqI_inj.2 e)
      (repeat (first | ((with_reducible refine Tr.step rfl ?_); (first | (refine xmQ (z := ?_)) | (refine xaQ (z := ?_)) | (refine xdQ (z := ?_)))) | (with_reducible first | apply Tr.next | apply Tr.region | apply Tr.nil | apply Tr.skip | apply Tr.in_normal) | (refine Tr.cond_f rfl (by (with_reducible assumption)) ?_)))
      exact Tr.again (i + 1) ⟨by omega, upto_next hall (by rw [hx, hy, e])⟩ (by omega) hsQ
    · have e2 : rqI x ≠ rqI y := fun h => e (rqI_inj.1 h)
      (repeat (first | ((with_reducible refine Tr.step rfl ?_); (with_reducible refine Knd.assign ?_); (refine xaQ (z := ?_))) | (with_reducible first | apply Tr.next | apply Tr.seq | apply Tr.region | apply Tr.nil | apply Tr.ret | apply Tr.then_ret | apply Tr.in_ret) | (refine Tr.cond_t rfl (by (with_reducible assumption)) ?_)))
      (refine dnQ (hL := by exact ⟨[_, _], rfl⟩) (k := ⟨rfl, ?_⟩))
      exact ⟨⟨false, rfl, by simp only [Bool.false_eq_true, false_iff]; exact hne e⟩, rfl⟩
  have ei : p.reqs.length = i := by omega
  subst ei
  have er := eq_upto c3 hall
  clear hall hlt hi
  (repeat (first | ((with_reducible refine Tr.step rfl ?_); (first | (refine xmQ (z := ?_)) | (refine xaQ (z := ?_)) | (refine xlQ (z := ?_)) | (refine xfQ (z := ?_)) | (refine xnQ (z := ?_)) | (refine xiQ (z := ?_)))) | (with_reducible first | apply Tr.next | apply Tr.seq | apply Tr.region | apply Tr.nil | apply Tr.block | apply Tr.exit | apply Tr.then_exit) | ((with_reducible refine Tr.in_exit ?_ ?_); (exact rfl)) | (refine Tr.cond_f rfl (by omega) ?_)))
  refine Tr.loop (α := Nat) (fun y => ⟨133, [(7, .int .i64 (y : Int)), (3, .pointer (some ⟨b3, 0, none⟩)), (2, .pointer (some ⟨b2, 0, none⟩))], [], M, box b3 27 [.int .i64 q.known, .slice Bs q.sups.length ds, .slice Br q.reqs.length dr, .slice Bf q.fits.length df, .slice Bd q.reads dd] :: box b2 27 [.int .i64 p.known, .slice As p.sups.length cs, .slice Ar p.reqs.length cr, .slice Af p.fits.length cf, .slice Ad p.reads cd] :: ([] ++ F)⟩)
    (fun y => y ≤ p.fits.length ∧ ∀ t, t < y → p.fits[t]? = q.fits[t]?) (fun y => p.fits.length - y) 0 ⟨Nat.zero_le _, fun t ht => by omega⟩ hsQ (fun i hi => ?_)
  obtain ⟨hi, hall⟩ := hi
  by_cases hlt : i < p.fits.length
  rotate_left
  · have ei : p.fits.length = i := by omega
    subst ei
    have ef := eq_upto c4 hall
    (repeat (first | ((with_reducible refine Tr.step rfl ?_); (first | (refine xmQ (z := ?_)) | (refine xaQ (z := ?_)) | (refine xlQ (z := ?_)) | (refine xfQ (z := ?_)) | (refine xnQ (z := ?_)) | (refine xiQ (z := ?_)))) | (with_reducible first | apply Tr.next | apply Tr.seq | apply Tr.region | apply Tr.nil | apply Tr.exit | apply Tr.ret | apply Tr.then_exit) | ((with_reducible refine Tr.in_exit ?_ ?_); (exact rfl)) | (refine Tr.cond_f rfl (by first | (with_reducible assumption) | omega) ?_)))
    (refine dnQ (hL := by exact ⟨[_, _], rfl⟩) (k := ⟨rfl, ?_⟩))
    refine ⟨⟨true, rfl, by simp only [true_iff]; obtain ⟨a1, a2, a3, a4, a5⟩ := p; obtain ⟨b1, b2, b3, b4, b5⟩ := q; simp only at c1 es er ef c5; rw [c1, es, er, ef, c5]⟩, rfl⟩
  obtain ⟨x, hx⟩ := get_of_lt hlt
  obtain ⟨y, hy⟩ := get_of_lt (xs := q.fits) (i := i) (by omega)
  obtain ⟨hA, chx, hatx, Ax, nx, rfl, hIx⟩ := h3.elem hx
  obtain ⟨hB, chy, haty, Ay, ny, rfl, hIy⟩ := q3.elem hy
  have hne : x ≠ y → ¬ p = q := fun hn h => hn (by rw [h, hy] at hx; exact (Option.some.inj hx).symm)
  have hxl := hIx.len_le
  have hyl := hIy.len_le
  (repeat (first | ((with_reducible refine Tr.step rfl ?_); (first | (refine xmQ (z := ?_)) | (refine xlQ (z := ?_)) | (refine xfQ (z := ?_)) | (refine xnQ (z := ?_)) | (refine xiQ (z := ?_)))) | (with_reducible first | apply Tr.next | apply Tr.seq | apply Tr.region | apply Tr.nil | apply Tr.skip | apply Tr.block) | (refine Tr.cond_t rfl (by first | (with_reducible assumption) | omega) ?_)))
  (((apply Tr.draw); (kernel_rfl)); (refine tkQ 0 (hB := by exact fun _ h => h) (s := by exact sfQ) (h := ?_)); (refine tkQ 2 (s := by exact Stab.move rfl) (h := ?_)); (refine tkQ 6 (s := by exact sfQ) (h := ?_)); (refine tkQ 8 (s := by exact Stab.move rfl) (h := ?_)); (refine tkQ 1 (s := by exact slQ) (h := ?_)); (refine tkQ 7 (s := by exact slQ) (h := ?_)); (refine tkQ 3 (s := by exact sxQ) (h := ?_)); (refine tkQ 9 (s := by exact sxQ) (h := ?_)); (refine tkQ 4 (s := by exact sMQ) (h := ?_)); (refine tkQ 10 (s := by exact sMQ) (h := ?_)); (refine tkQ 5 (s := by exact snQ) (h := ?_)); (refine tkQ 11 (s := by exact snQ) (h := ?_)); (refine tkQ 12 (s := by exact siQ) (h := ?_)); (refine TrA.done (by kernel_rfl) ?_))
  by_cases c6 : x.length = y.length
  rotate_left
  · (repeat (first | ((with_reducible refine Tr.step rfl ?_); (with_reducible refine Knd.assign ?_); (refine xaQ (z := ?_))) | (with_reducible first | apply Tr.next | apply Tr.seq | apply Tr.region | apply Tr.nil | apply Tr.ret | apply Tr.then_ret | apply Tr.in_ret) | (refine Tr.cond_t rfl (by first | (with_reducible assumption) | omega) ?_)))
    (refine dnQ (hL := by exact ⟨[_, _], rfl⟩) (k := ⟨rfl, ?_⟩))
    exact ⟨⟨false, rfl, by simp only [Bool.false_eq_true, false_iff]; exact hne (fun h => c6 (by rw [h]))⟩, rfl⟩
  (repeat (first | ((with_reducible refine Tr.step rfl ?_); (with_reducible refine Knd.assign ?_); (refine xaQ (z := ?_))) | (with_reducible first | apply Tr.next | apply Tr.seq | apply Tr.region | apply Tr.nil | apply Tr.skip | apply Tr.block) | (refine Tr.cond_f rfl (by omega) ?_)))
  refine Tr.loop (α := Nat) (fun y => ⟨133, [(8, .int .i64 (y : Int)), (7, .int .i64 (i : Int)), (3, .pointer (some ⟨b3, 0, none⟩)), (2, .pointer (some ⟨b2, 0, none⟩))], [], M, box b3 27 [.int .i64 q.known, .slice Bs q.sups.length ds, .slice Br q.reqs.length dr, .slice Bf q.fits.length df, .slice Bd q.reads dd] :: box b2 27 [.int .i64 p.known, .slice As p.sups.length cs, .slice Ar p.reqs.length cr, .slice Af p.fits.length cf, .slice Ad p.reads cd] :: ([] ++ F)⟩)
    (fun j => j ≤ x.length ∧ ∀ t, t < j → x[t]? = y[t]?) (fun j => x.length - j) 0 ⟨Nat.zero_le _, fun t ht => by omega⟩ hsQ (fun j hj => ?_)
  obtain ⟨hj, hrow⟩ := hj
  by_cases hlt2 : j < x.length
  · obtain ⟨u, hu⟩ := get_of_lt hlt2
    obtain ⟨z, hz⟩ := get_of_lt (xs := y) (i := j) (by omega)
    obtain ⟨hA2, hat2⟩ := Bools.at hIx hu
    obtain ⟨hB2, hbt2⟩ := Bools.at hIy hz
    (repeat (first | ((with_reducible refine Tr.step rfl ?_); (first | (refine xmQ (z := ?_)) | ((with_reducible refine Knd.load ?_); (first | (refine xlQ (z := ?_)) | (refine xMQ (z := ?_)))) | (refine xfQ (z := ?_)) | (refine xnQ (z := ?_)) | (refine xiQ (z := ?_)) | (refine xxQ (z := ?_)))) | (with_reducible first | apply Tr.next | apply Tr.seq | apply Tr.region | apply Tr.nil | apply Tr.skip | apply Tr.block) | (refine Tr.cond_t rfl (by first | (with_reducible assumption) | omega) ?_)))
    (((apply Tr.draw); (kernel_rfl)); (refine tkQ 0 (hB := by exact fun _ h => h) (s := by exact sfQ) (h := ?_)); (refine tkQ 2 (s := by exact Stab.move rfl) (h := ?_)); (refine tkQ 5 (s := by exact Stab.move rfl) (h := ?_)); (refine tkQ 8 (s := by exact sfQ) (h := ?_)); (refine tkQ 10 (s := by exact Stab.move rfl) (h := ?_)); (refine tkQ 13 (s := by exact Stab.move rfl) (h := ?_)); (refine tkQ 1 (s := by exact slQ) (h := ?_)); (refine tkQ 9 (s := by exact slQ) (h := ?_)); (refine tkQ 3 (s := by exact sxQ) (h := ?_)); (refine tkQ 11 (s := by exact sxQ) (h := ?_)); (refine tkQ 4 (s := by exact sMQ) (h := ?_)); (refine tkQ 12 (s := by exact sMQ) (h := ?_)); (refine tkQ 6 (s := by exact sxQ) (h := ?_)); (refine tkQ 14 (s := by exact sxQ) (h := ?_)); (refine tkQ 7 (s := by exact sMQ) (h := ?_)); (refine tkQ 15 (s := by exact sMQ) (h := ?_)); (refine tkQ 16 (s := by exact Stab.boolne rfl rfl (tysOk.get rfl) rfl) (h := ?_)); (refine TrA.done (by kernel_rfl) ?_))
    by_cases e : u = z
    · have e2 : ¬ ¬ u = z := fun h => h e
      (repeat (first | ((with_reducible refine Tr.step rfl ?_); (first | (refine xmQ (z := ?_)) | (refine xaQ (z := ?_)) | (refine xdQ (z := ?_)))) | (with_reducible first | apply Tr.next | apply Tr.region | apply Tr.nil | apply Tr.skip | apply Tr.in_normal) | (refine Tr.cond_f rfl (by (with_reducible assumption)) ?_)))
      exact Tr.again (j + 1) ⟨by omega, upto_next hrow (by rw [hu, hz, e])⟩ (by omega) hsQ
    · (repeat (first | ((with_reducible refine Tr.step rfl ?_); (with_reducible refine Knd.assign ?_); (refine xaQ (z := ?_))) | (with_reducible first | apply Tr.next | apply Tr.seq | apply Tr.region | apply Tr.nil | apply Tr.ret | apply Tr.then_ret | apply Tr.in_ret) | (refine Tr.cond_t rfl (by (with_reducible assumption)) ?_)))
      (refine dnQ (hL := by exact ⟨[_, _], rfl⟩) (k := ⟨rfl, ?_⟩))
      exact ⟨⟨false, rfl, by simp only [Bool.false_eq_true, false_iff]; exact hne (fun h => e (by rw [h, hz] at hu; exact (Option.some.inj hu).symm))⟩, rfl⟩
  have ej : x.length = j := by omega
  subst ej
  have exy := eq_upto c6 hrow
  (repeat (first | ((with_reducible refine Tr.step rfl ?_); (first | (refine xmQ (z := ?_)) | (refine xaQ (z := ?_)) | ((with_reducible refine Knd.load ?_); (first | (refine xlQ (z := ?_)) | (refine xMQ (z := ?_)))) | (refine xfQ (z := ?_)) | (refine xnQ (z := ?_)) | ((with_reducible refine Knd.binOp ?_); (first | (refine xdQ (z := ?_)) | (refine xiQ (z := ?_)))) | (refine xxQ (z := ?_)))) | (with_reducible first | apply Tr.next | apply Tr.seq | apply Tr.region | apply Tr.nil | apply Tr.exit | apply Tr.then_exit | apply Tr.in_normal) | ((with_reducible refine Tr.in_exit ?_ ?_); (exact rfl)) | (refine Tr.cond_f rfl (by first | (with_reducible assumption) | omega) ?_)))
  exact Tr.again (i + 1) ⟨by omega, upto_next hall (by rw [hx, hy, exy])⟩ (by omega) hsQ
end Go.Proofs.Ytgnipfjjkliibaa

/-
  Honour: a request sought among the broken ones, the amounts of a book, few, the sample.
  Conditions: none.
-/
namespace Go.Proofs.Ytgnipfjjkliibaa
open Go Bf
attribute [local irreducible] Tr Exec Stab HasTy Go.Addr.add IntKind.wrap
/-- few enough -/
def fewP (k : Bk) (l : List Hp) : Prop := (∀ r ∈ k.fits, r.length ≤ 8) ∧ k.sups.length ≤ 5 ∧ k.reqs.length ≤ 5 ∧ k.fits.length ≤ 8 ∧ k.reads ≤ 60 ∧ l.length ≤ 8
set_option maxHeartbeats 4000000 in
theorem few33_fn (M : Mem) (v : Value) (k : Bk) (h : RBk M v k) (A : Option Addr) (c : Nat) (l : List Hp) :
    Fn0 Try.prog 10 [v, .slice A l.length c] M (fun r M' => (∃ b : Bool, r = .bool b ∧ (b = true → fewP k l)) ∧ M = M') := by
  obtain ⟨As, cs, Ar, cr, Af, cf, Ad, cd, rfl, h1, h2, h3⟩ := h
  have l3 := h3.len_le
  refine Fn.intro Try.func10 rfl rfl Try.ntmps10 rfl fun E F => ?_
  (repeat (first | ((with_reducible refine Tr.step rfl ?_); (first | (refine xaQ (z := ?_)) | ((with_reducible refine Knd.box ?_); (refine Exec.box rfl rfl (fun b => ?_))))) | (with_reducible first | apply Tr.next | apply Tr.seq | apply Tr.region | apply Tr.nil | apply Tr.block)))
  generalize b = b1
  refine Tr.loop (α := Nat) (fun y => ⟨47, [(5, .int .i64 (y : Int)), (2, .pointer (some ⟨b1, 0, none⟩)), (1, .slice A l.length c)], [], M, box b1 27 [.int .i64 k.known, .slice As k.sups.length cs, .slice Ar k.reqs.length cr, .slice Af k.fits.length cf, .slice Ad k.reads cd] :: ([] ++ F)⟩)
    (fun y => y ≤ k.fits.length ∧ ∀ t (u : List Bool), t < y → k.fits[t]? = some u → u.length ≤ 8) (fun y => k.fits.length - y) 0 ⟨Nat.zero_le _, fun t _ ht => by omega⟩ hsQ (fun i hi => ?_)
  obtain ⟨hi, hall⟩ := hi
  by_cases hlt : i < k.fits.length
  · obtain ⟨u, hu⟩ := get_of_lt hlt
    obtain ⟨hA, chx, hatx, Ax, nx, rfl, hIx⟩ := h3.elem hu
    by_cases e : u.length ≤ 8
    · (repeat (first | ((with_reducible refine Tr.step rfl ?_); (first | (refine xmQ (z := ?_)) | (refine xaQ (z := ?_)) | ((with_reducible refine Knd.load ?_); (first | (refine xlQ (z := ?_)) | (refine xMQ (z := ?_)))) | (refine xfQ (z := ?_)) | (refine xnQ (z := ?_)) | ((with_reducible refine Knd.binOp ?_); (first | (refine xdQ (z := ?_)) | (refine xiQ (z := ?_)))) | (refine xxQ (z := ?_)))) | (with_reducible first | apply Tr.next | apply Tr.seq | apply Tr.region | apply Tr.nil | apply Tr.skip | apply Tr.block | apply Tr.in_normal) | (refine Tr.cond_t rfl (by first | (with_reducible assumption) | omega) ?_) | (refine Tr.cond_f rfl (by omega) ?_)))
      refine Tr.again (i + 1) ⟨by omega, fun t w ht hw => ?_⟩ (by omega) hsQ
      by_cases ht2 : t < i
      · exact hall t w ht2 hw
      · have : t = i := by omega
        subst this
        rw [hu] at hw
        cases hw
        exact e
    · (repeat (first | ((with_reducible refine Tr.step rfl ?_); (first | (refine xmQ (z := ?_)) | (refine xaQ (z := ?_)) | ((with_reducible refine Knd.load ?_); (first | (refine xlQ (z := ?_)) | (refine xMQ (z := ?_)))) | (refine xfQ (z := ?_)) | (refine xnQ (z := ?_)) | (refine xiQ (z := ?_)) | (refine xxQ (z := ?_)))) | (with_reducible first | apply Tr.next | apply Tr.seq | apply Tr.region | apply Tr.nil | apply Tr.skip | apply Tr.block | apply Tr.ret | apply Tr.then_ret | apply Tr.in_ret) | (refine Tr.cond_t rfl (by first | (with_reducible assumption) | omega) ?_)))
      (refine dnQ (hL := by exact ⟨[_], rfl⟩) (k := ⟨rfl, ?_⟩))
      exact ⟨⟨false, rfl, fun h => by cases h⟩, rfl⟩
  have ei : k.fits.length = i := by omega
  subst ei
  have hrows : ∀ r ∈ k.fits, r.length ≤ 8 := fun r hr => by
    obtain ⟨t, ht, rfl⟩ := List.getElem_of_mem hr
    exact hall t _ ht (List.getElem?_eq_getElem ht)
  by_cases c1 : k.sups.length ≤ 5
  rotate_left
  · (repeat (first | ((with_reducible refine Tr.step rfl ?_); (first | (refine xmQ (z := ?_)) | (refine xaQ (z := ?_)) | (refine xlQ (z := ?_)) | (refine xfQ (z := ?_)) | (refine xnQ (z := ?_)) | (refine xiQ (z := ?_)) | ((with_reducible refine Knd.pick ?_); (first | (refine Exec.stab rfl (Stab.pick_f rfl (by (with_reducible rfl)) rfl) rfl ?_) | (refine Exec.stab rfl (Stab.pick_fd rfl (by omega) rfl) rfl ?_))))) | (with_reducible first | apply Tr.next | apply Tr.seq | apply Tr.region | apply Tr.nil) | (refine Tr.guard_s1 rfl rfl rfl (by (with_reducible rfl)) rfl rfl ?_) | (refine Tr.guard_n rfl rfl rfl (by first | (with_reducible assumption) | omega) rfl rfl ?_) | (with_reducible first | apply Tr.exit | apply Tr.ret | apply Tr.then_exit) | ((with_reducible refine Tr.in_exit ?_ ?_); (exact rfl)) | (refine Tr.cond_f rfl (by first | (with_reducible assumption) | omega) ?_)))
    (refine dnQ (hL := by exact ⟨[_], rfl⟩) (k := ⟨rfl, ?_⟩))
    exact ⟨⟨false, rfl, fun h => by cases h⟩, rfl⟩
  by_cases c2 : k.reqs.length ≤ 5
  rotate_left
  · (repeat (first | ((with_reducible refine Tr.step rfl ?_); (first | (refine xmQ (z := ?_)) | (refine xaQ (z := ?_)) | (refine xlQ (z := ?_)) | (refine xfQ (z := ?_)) | (refine xnQ (z := ?_)) | (refine xiQ (z := ?_)) | ((with_reducible refine Knd.pick ?_); (first | (refine Exec.stab rfl (Stab.pick_f rfl (by (with_reducible rfl)) rfl) rfl ?_) | (refine Exec.stab rfl (Stab.pick_td rfl (by omega) rfl) rfl ?_) | (refine Exec.stab rfl (Stab.pick_fd rfl (by omega) rfl) rfl ?_))))) | (with_reducible first | apply Tr.next | apply Tr.seq | apply Tr.region | apply Tr.nil) | (refine Tr.guard_s1 rfl rfl rfl (by (with_reducible rfl)) rfl rfl ?_) | ((refine Tr.guard_y rfl rfl rfl (by first | (with_reducible assumption) | omega) ?_); (first | (refine xlQ (z := ?_)) | (refine xfQ (z := ?_)) | (refine xnQ (z := ?_)) | (refine xiQ (z := ?_)))) | (refine Tr.guard_n rfl rfl rfl (by first | (with_reducible assumption) | omega) rfl rfl ?_) | (with_reducible first | apply Tr.exit | apply Tr.ret | apply Tr.then_exit) | ((with_reducible refine Tr.in_exit ?_ ?_); (exact rfl)) | (refine Tr.cond_f rfl (by first | (with_reducible assumption) | omega) ?_)))
    (refine dnQ (hL := by exact ⟨[_], rfl⟩) (k := ⟨rfl, ?_⟩))
    exact ⟨⟨false, rfl, fun h => by cases h⟩, rfl⟩
  by_cases c3 : k.fits.length ≤ 8
  rotate_left
  · (repeat (first | ((with_reducible refine Tr.step rfl ?_); (first | (refine xmQ (z := ?_)) | (refine xaQ (z := ?_)) | (refine xlQ (z := ?_)) | (refine xfQ (z := ?_)) | (refine xnQ (z := ?_)) | (refine xiQ (z := ?_)) | ((with_reducible refine Knd.pick ?_); (first | (refine Exec.stab rfl (Stab.pick_f rfl (by (with_reducible rfl)) rfl) rfl ?_) | (refine Exec.stab rfl (Stab.pick_td rfl (by omega) rfl) rfl ?_) | (refine Exec.stab rfl (Stab.pick_fd rfl (by omega) rfl) rfl ?_))))) | (with_reducible first | apply Tr.next | apply Tr.seq | apply Tr.region | apply Tr.nil) | (refine Tr.guard_s1 rfl rfl rfl (by (with_reducible rfl)) rfl rfl ?_) | ((refine Tr.guard_y rfl rfl rfl (by first | (with_reducible assumption) | omega) ?_); (first | (refine xlQ (z := ?_)) | (refine xfQ (z := ?_)) | (refine xnQ (z := ?_)) | (refine xiQ (z := ?_)))) | (refine Tr.guard_n rfl rfl rfl (by first | (with_reducible assumption) | omega) rfl rfl ?_) | (with_reducible first | apply Tr.exit | apply Tr.ret | apply Tr.then_exit) | ((with_reducible refine Tr.in_exit ?_ ?_); (exact rfl)) | (refine Tr.cond_f rfl (by first | (with_reducible assumption) | omega) ?_)))
    (refine dnQ (hL := by exact ⟨[_], rfl⟩) (k := ⟨rfl, ?_⟩))
    exact ⟨⟨false, rfl, fun h => by cases h⟩, rfl⟩
  by_cases c4 : k.reads ≤ 60
  rotate_left
  · (repeat (first | ((with_reducible refine Tr.step rfl ?_); (first | (refine xmQ (z := ?_)) | (refine xaQ (z := ?_)) | (refine xlQ (z := ?_)) | (refine xfQ (z := ?_)) | (refine xnQ (z := ?_)) | (refine xiQ (z := ?_)) | ((with_reducible refine Knd.pick ?_); (first | (refine Exec.stab rfl (Stab.pick_td rfl (by omega) rfl) rfl ?_) | (refine Exec.stab rfl (Stab.pick_fd rfl (by omega) rfl) rfl ?_))))) | (with_reducible first | apply Tr.next | apply Tr.seq | apply Tr.region | apply Tr.nil) | ((refine Tr.guard_y rfl rfl rfl (by first | (with_reducible assumption) | omega) ?_); (first | (refine xlQ (z := ?_)) | (refine xfQ (z := ?_)) | (refine xnQ (z := ?_)) | (refine xiQ (z := ?_)))) | (refine Tr.guard_n rfl rfl rfl (by first | (with_reducible assumption) | omega) rfl rfl ?_) | (with_reducible first | apply Tr.exit | apply Tr.ret | apply Tr.then_exit) | ((with_reducible refine Tr.in_exit ?_ ?_); (exact rfl)) | (refine Tr.cond_f rfl (by first | (with_reducible assumption) | omega) ?_)))
    (refine dnQ (hL := by exact ⟨[_], rfl⟩) (k := ⟨rfl, ?_⟩))
    exact ⟨⟨false, rfl, fun h => by cases h⟩, rfl⟩
  (repeat (first | ((with_reducible refine Tr.step rfl ?_); (first | (refine xmQ (z := ?_)) | (refine xaQ (z := ?_)) | (refine xlQ (z := ?_)) | (refine xfQ (z := ?_)) | (refine xnQ (z := ?_)) | (refine xiQ (z := ?_)) | ((with_reducible refine Knd.pick ?_); (refine Exec.stab rfl (Stab.pick_td rfl (by omega) rfl) rfl ?_)))) | (with_reducible first | apply Tr.next | apply Tr.seq | apply Tr.region | apply Tr.nil) | ((refine Tr.guard_y rfl rfl rfl (by first | (with_reducible assumption) | omega) ?_); (first | (refine xmQ (z := ?_)) | (refine xlQ (z := ?_)) | (refine xfQ (z := ?_)) | (refine xnQ (z := ?_)) | (refine xiQ (z := ?_)))) | (with_reducible first | apply Tr.exit | apply Tr.ret | apply Tr.then_exit) | ((with_reducible refine Tr.in_exit ?_ ?_); (exact rfl)) | (refine Tr.cond_f rfl (by first | (with_reducible assumption) | omega) ?_)))
  (refine dnQ (hL := by exact ⟨[_], rfl⟩) (k := ⟨rfl, ?_⟩))
  exact ⟨⟨_, rfl, fun h => ⟨hrows, c1, c2, c3, c4, by have := of_decide_eq_true h; omega⟩⟩, rfl⟩
end Go.Proofs.Ytgnipfjjkliibaa

/-
  Matching, plain: sets of bits and sets of requests; what the reference computes of them.
  Conditions: none.
-/
namespace Go.Proofs.Ytgnipfjjkliibaa
open Go Bf
/-- the bits of a set -/
def bitsOf (S : Nat → Bool) : Nat → Nat
  | 0 => 0
  | m + 1 => bitsOf S m + if S m then 2 ^ m else 0
theorem bitsOf_lt (S : Nat → Bool) : ∀ m, bitsOf S m < 2 ^ m
  | 0 => by simp [bitsOf]
  | m + 1 => by
    have := bitsOf_lt S m
    rw [bitsOf, Nat.pow_succ]
    split <;> omega
theorem bitsOf_bit (S : Nat → Bool) : ∀ m i, (bitsOf S m).testBit i = (decide (i < m) && S i)
  | 0, i => by simp [bitsOf]
  | m + 1, i => by
    have hl := bitsOf_lt S m
    have ih := bitsOf_bit S m i
    have e : bitsOf S (m + 1) = 2 ^ m * (if S m then 1 else 0) + bitsOf S m := by
      rw [bitsOf]; split <;> simp <;> omega
    rw [e, Nat.testBit_two_pow_mul_add _ hl]
    by_cases h : i < m
    · rw [if_pos h, ih]
      have h2 : i < m + 1 := by omega
      simp [h, h2]
    · rw [if_neg h]
      by_cases h3 : i = m
      · subst h3
        simp
        cases S i <;> simp
      · have h4 : ¬ i < m + 1 := by omega
        simp only [h4, decide_false, Bool.false_and]
        obtain ⟨d, hd⟩ : ∃ d, i - m = d + 1 := ⟨i - m - 1, by omega⟩
        rw [hd]
        cases S m <;> simp [Nat.testBit_succ]
theorem touch_bits {fits : List (List Bool)} {sup need : List Int} (hv : Vld fits sup need) {k : Nat} (hk : k < sup.length) (s : Nat) : touchB (fits.getD k []) s = touches (pbOf fits sup need) (fun b => s.testBit b) k := by
  have hl := hv.lf
  obtain ⟨row, hr⟩ := get_of_lt (xs := fits) (i := k) (by omega)
  have hrl := hv.rows row (List.mem_of_getElem? hr)
  unfold touchB touches
  rw [getD_of (d := []) hr, hrl]
  show _ = (List.range need.length).any fun b => s.testBit b && (fits.getD k []).getD b false
  rw [getD_of (d := []) hr]
theorem lackB_eq {fits : List (List Bool)} {sup need : List Int} (hv : Vld fits sup need) (s : Nat) : lackB fits sup need s = lackOf (pbOf fits sup need) (fun b => s.testBit b) := by
  unfold lackB lackOf
  congr 1
  refine sumN_congr fun k hk => ?_
  rw [touch_bits hv hk]
  rfl
theorem lackOf_congr {p : Pb} {D D' : Nat → Bool} (h : ∀ b, b < p.m → D b = D' b) : lackOf p D = lackOf p D' := by
  unfold lackOf
  congr 1
  · exact sumN_congr fun b hb => by rw [h b hb]
  · refine sumN_congr fun k _ => ?_
    have : touches p D k = touches p D' k := by
      rw [Bool.eq_iff_iff, touches_iff, touches_iff]
      exact ⟨fun ⟨b, h1, h2, h3⟩ => ⟨b, h1, by rw [← h b h1]; exact h2, h3⟩, fun ⟨b, h1, h2, h3⟩ => ⟨b, h1, by rw [h b h1]; exact h2, h3⟩⟩
    rw [this]
theorem lackOf_bits {fits : List (List Bool)} {sup need : List Int} (hv : Vld fits sup need) (D : Nat → Bool) : lackOf (pbOf fits sup need) D = lackB fits sup need (bitsOf D need.length) := by
  rw [lackB_eq hv]
  refine lackOf_congr fun b hb => ?_
  rw [bitsOf_bit]
  have : b < need.length := hb
  simp [this]
theorem MaxLack.isLack {fits : List (List Bool)} {sup need : List Int} (hv : Vld fits sup need) {v : Int} (h : MaxLack fits sup need (2 ^ need.length) v) : IsLack (pbOf fits sup need) v := by
  refine ⟨?_, fun D => ?_⟩
  · rcases h.is with h | ⟨s, _, _, h⟩
    · exact ⟨fun _ => false, by rw [lackOf_none, h]⟩
    · exact ⟨_, by rw [← lackB_eq hv, h]⟩
  · rw [lackOf_bits hv]
    by_cases h0 : bitsOf D need.length = 0
    · rw [h0, lackB_eq hv]
      have : lackOf (pbOf fits sup need) (fun b => (0 : Nat).testBit b) = 0 := by
        rw [← lackOf_none (pbOf fits sup need)]
        exact lackOf_congr fun b _ => by simp
      rw [this]; exact h.nn
    · exact h.le _ (by omega) (bitsOf_lt _ _)
/-- a part of the requests can be met if no part of it lacks anything -/
theorem lackS_le {fits : List (List Bool)} {sup need : List Int} (hv : Vld fits sup need) (S D : Nat → Bool) : lackOf (pbS fits sup need S) D ≤ lackOf (pbOf fits sup need) (fun b => D b && S b) := by
  unfold lackOf
  have h1 : (sumN (pbS fits sup need S).m fun b => if D b = true then (pbS fits sup need S).need b else 0) = sumN (pbOf fits sup need).m fun b => if (D b && S b) = true then (pbOf fits sup need).need b else 0 := sumN_congr fun b _ => by
    show (if D b = true then (if S b = true then need.getD b 0 else 0) else 0) = if (D b && S b) = true then need.getD b 0 else 0
    cases D b <;> cases S b <;> simp
  have h2 : (sumN (pbOf fits sup need).n fun k => if touches (pbOf fits sup need) (fun b => D b && S b) k = true then (pbOf fits sup need).sup k else 0) ≤ sumN (pbS fits sup need S).n fun k => if touches (pbS fits sup need S) D k = true then (pbS fits sup need S).sup k else 0 := sumN_le fun k hk => by
    by_cases ht : touches (pbOf fits sup need) (fun b => D b && S b) k = true
    · have : touches (pbS fits sup need S) D k = true := by
        obtain ⟨b, g1, g2, g3⟩ := touches_iff.1 ht
        exact touches_iff.2 ⟨b, g1, by simp at g2; exact g2.1, g3⟩
      rw [if_pos ht, if_pos this]
      exact Int.le_refl _
    · rw [if_neg ht]
      split
      · exact (getD_rng hv.rs k).1
      · exact Int.le_refl _
  exact Int.sub_le_sub (Int.le_of_eq h1) h2
theorem lackS_eq {fits : List (List Bool)} {sup need : List Int} (S D : Nat → Bool) (h : ∀ b, b < need.length → D b = true → S b = true) : lackOf (pbS fits sup need S) D = lackOf (pbOf fits sup need) D := by
  unfold lackOf
  congr 1
  refine sumN_congr fun b hb => ?_
  show (if D b = true then (if S b = true then need.getD b 0 else 0) else 0) = if D b = true then need.getD b 0 else 0
  by_cases hd : D b = true
  · rw [if_pos hd, if_pos hd, if_pos (h b hb hd)]
  · rw [if_neg hd, if_neg hd]
theorem feasS_iff {fits : List (List Bool)} {sup need : List Int} (hv : Vld fits sup need) (S : Nat → Bool) : Feas (pbS fits sup need S) ↔ ∀ D, lackOf (pbS fits sup need S) D ≤ 0 := feas_iff (fun k _ => (getD_rng hv.rs k).1) (fun b _ => by
  show 0 ≤ if S b = true then need.getD b 0 else 0
  split
  · exact (getD_rng hv.rn b).1
  · exact Int.le_refl _)
theorem poss_iff {fits : List (List Bool)} {sup need : List Int} (hv : Vld fits sup need) {set : Nat} (hs : set < 2 ^ need.length) : Poss fits sup need set ↔ Feas (pbS fits sup need fun b => set.testBit b) := by
  rw [feasS_iff hv]
  refine ⟨fun h D => ?_, fun h s h1 h2 h3 => ?_⟩
  · refine Int.le_trans (lackS_le hv _ D) ?_
    rw [lackOf_bits hv]
    by_cases h0 : bitsOf (fun b => D b && set.testBit b) need.length = 0
    · rw [h0, lackB_eq hv]
      have : lackOf (pbOf fits sup need) (fun b => (0 : Nat).testBit b) = 0 := by
        rw [← lackOf_none (pbOf fits sup need)]
        exact lackOf_congr fun b _ => by simp
      rw [this]; exact Int.le_refl _
    · have hsub : bitsOf (fun b => D b && set.testBit b) need.length &&& set = bitsOf (fun b => D b && set.testBit b) need.length := by
        apply Nat.eq_of_testBit_eq
        intro i
        rw [Nat.testBit_and, bitsOf_bit]
        cases D i <;> cases set.testBit i <;> simp
      refine h _ (by omega) ?_ hsub
      rw [← hsub]
      exact Nat.and_le_right
  · rw [lackB_eq hv, ← lackS_eq (S := fun b => set.testBit b)]
    · exact h _
    · intro b _ hb
      rw [← h3, Nat.testBit_and] at hb
      simp at hb
      exact hb.2
theorem sub_bit {s r : Nat} (h : s.testBit r = true) : 2 ^ r ≤ s ∧ ∀ b, (s - 2 ^ r).testBit b = (s.testBit b && decide (b ≠ r)) := by
  have hd : s = 2 ^ r * (s / 2 ^ r) + s % 2 ^ r := (Nat.div_add_mod s (2 ^ r)).symm
  have hl : s % 2 ^ r < 2 ^ r := Nat.mod_lt _ (Nat.two_pow_pos r)
  have hb : (s / 2 ^ r).testBit 0 = true := by
    rw [hd, Nat.testBit_two_pow_mul_add _ hl, if_neg (Nat.lt_irrefl _), Nat.sub_self] at h
    exact h
  generalize s / 2 ^ r = u at hd hb
  generalize s % 2 ^ r = l at hd hl
  obtain ⟨q, rfl⟩ : ∃ q, u = 2 * q + 1 := ⟨u / 2, by simp at hb; omega⟩
  have e1 : 2 ^ r * (2 * q + 1) = 2 ^ r * (2 * q) + 2 ^ r := by rw [Nat.mul_add, Nat.mul_one]
  have e2 : s - 2 ^ r = 2 ^ r * (2 * q) + l := by omega
  refine ⟨by omega, fun b => ?_⟩
  rw [e2, hd, Nat.testBit_two_pow_mul_add _ hl, Nat.testBit_two_pow_mul_add _ hl]
  by_cases h1 : b < r
  · rw [if_pos h1, if_pos h1]
    have : b ≠ r := by omega
    simp [this]
  · rw [if_neg h1, if_neg h1]
    by_cases h2 : b = r
    · subst h2
      simp
    · obtain ⟨d, hd⟩ : ∃ d, b - r = d + 1 := ⟨b - r - 1, by omega⟩
      rw [hd]
      have e3 : (2 * q + 1) / 2 = q := by omega
      have e4 : 2 * q / 2 = q := by omega
      simp [Nat.testBit_succ, e3, e4, h2]
theorem cut_bits {fits : List (List Bool)} {sup need : List Int} (hv : Vld fits sup need) : ∀ (r s : Nat), r ≤ need.length → s < 2 ^ need.length → (∀ i, i < r → s.testBit i = true) →
    (fun b => (cutS (Poss fits sup need) r s).testBit b) = cutF (fun S => Feas (pbS fits sup need S)) r (fun b => s.testBit b)
  | 0, s, _, _, _ => rfl
  | r + 1, s, hr, hs, hb => by
    obtain ⟨h1, h2⟩ := sub_bit (hb r (by omega))
    have hp := poss_iff hv (set := s - 2 ^ r) (Nat.lt_of_le_of_lt (Nat.sub_le _ _) hs)
    have e : (fun b => (s - 2 ^ r).testBit b) = fun b => s.testBit b && decide (b ≠ r) := funext h2
    rw [e] at hp
    rw [cutS, cutF]
    by_cases h : Poss fits sup need (s - 2 ^ r)
    · rw [if_pos h, cut_bits hv r s (by omega) hs fun i hi => hb i (by omega)]
      congr
      funext b
      by_cases hbr : b = r
      · subst hbr
        rw [if_pos rfl]
        exact (hb b (by omega)).trans (@decide_eq_true _ (Classical.propDecidable _) (hp.1 h)).symm
      · rw [if_neg hbr]
    · rw [if_neg h, cut_bits hv r (s - 2 ^ r) (by omega) (Nat.lt_of_le_of_lt (Nat.sub_le _ _) hs) fun i hi => by rw [h2, hb i (by omega)]; simp; omega]
      congr
      funext b
      by_cases hbr : b = r
      · subst hbr
        rw [if_pos rfl, h2]
        refine Eq.trans ?_ (@decide_eq_false _ (Classical.propDecidable _) (fun h' => h (hp.2 h'))).symm
        simp
      · rw [if_neg hbr, h2]; simp [hbr]
theorem cutFin_bits {fits : List (List Bool)} {sup need : List Int} (hv : Vld fits sup need) : cutFin fits sup need = fun b => (cutOfP fits sup need).testBit b := by
  have h := cut_bits hv need.length (2 ^ need.length - 1) (Nat.le_refl _) (by have := Nat.two_pow_pos need.length; omega) (fun i hi => by rw [Nat.testBit_two_pow_sub_one]; simp [hi])
  unfold cutFin cutOfP
  rw [h]
  congr
  funext b
  rw [Nat.testBit_two_pow_sub_one]
theorem memF_bits {fits : List (List Bool)} {sup need : List Int} (hv : Vld fits sup need) : memF (cutFin fits sup need) need.length = memI (cutOfP fits sup need) need.length := by
  rw [cutFin_bits hv]; rfl
theorem feas_poss {fits : List (List Bool)} {sup need : List Int} (hv : Vld fits sup need) : Feas (pbOf fits sup need) ↔ Poss fits sup need (2 ^ need.length - 1) := by
  rw [poss_iff hv (by have := Nat.two_pow_pos need.length; omega), feasS_iff hv, feas_iff hv.sup0 hv.need0]
  have h : ∀ D, lackOf (pbS fits sup need fun b => (2 ^ need.length - 1).testBit b) D = lackOf (pbOf fits sup need) D := fun D => lackS_eq _ _ fun b hb _ => by rw [Nat.testBit_two_pow_sub_one]; simp [hb]
  simp only [h]
end Go.Proofs.Ytgnipfjjkliibaa

/-
  Matching, plain: how much of a supply a request can get; amounts one after the other.
  Conditions: none.
-/
namespace Go.Proofs.Ytgnipfjjkliibaa
open Go Bf
theorem Flow.congr {p : Pb} {x y : Nat → Nat → Int} {lack : Nat → Int} (h : Bf.Flow p x lack) (e : ∀ k, k < p.n → ∀ b, b ≤ p.m → y k b = x k b) : Bf.Flow p y lack := by
  refine ⟨⟨fun k hk b hb => by rw [e k hk b hb]; exact h.nn k hk b hb, fun k hk b hb h0 => h.ok k hk b hb (by rw [← e k hk b (by omega)]; exact h0), fun k hk => ?_⟩, fun b hb => ?_, h.lk⟩
  · rw [← h.row k hk]
    exact sumN_congr fun b hb => e k hk b (by omega)
  · rw [← h.col b hb]
    congr 1
    exact sumN_congr fun k hk => e k hk b (by omega)
/-- what remains when the supply s has given v to the request r, and serves it no more -/
def afterP (q : Pb) (s r : Nat) (v : Int) : Pb := ⟨q.n, q.m, fun k b => q.fits k b && !(decide (k = s) && decide (b = r)), fun k => if k = s then q.sup k - v else q.sup k, fun b => if b = r then q.need b - v else q.need b⟩
def addAt (c : Nat → Nat → Int) (s r : Nat) (v : Int) (k b : Nat) : Int := if k = s ∧ b = r then c k b + v else c k b
theorem sumN_at {n s : Nat} {f g : Nat → Int} {v : Int} (hs : s < n) (h1 : g s = f s + v) (h2 : ∀ i, i ≠ s → g i = f i) : sumN n g = sumN n f + v := by
  rw [sumN_upd (f := f) (g := g) hs h2, h1]; omega
theorem flow_add {q : Pb} {s r : Nat} {v : Int} {c : Nat → Nat → Int} (hs : s < q.n) (hr : r < q.m) (hf : q.fits s r = true) (hv : 0 ≤ v) (h : Bf.Flow (afterP q s r v) c fun _ => 0) : Bf.Flow q (addAt c s r v) fun _ => 0 := by
  have hz : c s r = 0 := by
    by_cases e : c s r = 0
    · exact e
    · have := h.ok s hs r hr e
      simp [afterP] at this
  refine ⟨⟨fun k hk b hb => ?_, fun k hk b hb h0 => ?_, fun k hk => ?_⟩, fun b hb => ?_, fun _ _ => Int.le_refl _⟩
  · have := h.nn k hk b hb
    unfold addAt
    split <;> omega
  · by_cases e : k = s ∧ b = r
    · obtain ⟨rfl, rfl⟩ := e; exact hf
    · unfold addAt at h0
      rw [if_neg e] at h0
      have := h.ok k hk b hb h0
      simp only [afterP, Bool.and_eq_true] at this
      exact this.1
  · have h1 : sumN (q.m + 1) (c k) = if k = s then q.sup k - v else q.sup k := h.row k hk
    by_cases e : k = s
    · subst e
      rw [if_pos rfl] at h1
      rw [sumN_at (n := q.m + 1) (s := r) (f := c k) (v := v) (by omega) (by simp [addAt]) (fun i hi => by simp [addAt, hi]), h1]
      omega
    · rw [if_neg e] at h1
      rw [← h1]
      exact sumN_congr fun b _ => by simp [addAt, e]
  · have h1 : (0 : Int) + sumN q.n (fun k => c k b) = if b = r then q.need b - v else q.need b := h.col b hb
    show (0 : Int) + sumN q.n (fun k => addAt c s r v k b) = q.need b
    by_cases e : b = r
    · subst e
      rw [if_pos rfl] at h1
      rw [sumN_at (n := q.n) (s := s) (f := fun k => c k b) (v := v) hs (by simp [addAt]) (fun i hi => by simp [addAt, hi])]
      omega
    · rw [if_neg e] at h1
      rw [← h1]
      congr 1
      exact sumN_congr fun k _ => by simp [addAt, e]
theorem flow_sub {q : Pb} {s r : Nat} {c : Nat → Nat → Int} (hs : s < q.n) (hr : r < q.m) (h : Bf.Flow q c fun _ => 0) : Bf.Flow (afterP q s r (c s r)) (addAt c s r (-(c s r))) fun _ => 0 := by
  have hnn := h.nn s hs r (by omega)
  refine ⟨⟨fun k hk b hb => ?_, fun k hk b hb h0 => ?_, fun k hk => ?_⟩, fun b hb => ?_, fun _ _ => Int.le_refl _⟩
  · have := h.nn k hk b hb
    unfold addAt
    split
    · rename_i e; obtain ⟨rfl, rfl⟩ := e; omega
    · exact this
  · unfold addAt at h0
    by_cases e : k = s ∧ b = r
    · rw [if_pos e] at h0
      obtain ⟨rfl, rfl⟩ := e
      omega
    · rw [if_neg e] at h0
      have := h.ok k hk b hb h0
      show (q.fits k b && !(decide (k = s) && decide (b = r))) = true
      rw [this]
      simp
      omega
  · have h1 : sumN (q.m + 1) (c k) = q.sup k := h.row k hk
    show sumN (q.m + 1) (addAt c s r (-(c s r)) k) = if k = s then q.sup k - c s r else q.sup k
    by_cases e : k = s
    · subst e
      rw [if_pos rfl, sumN_at (n := q.m + 1) (s := r) (f := c k) (v := -(c k r)) (by omega) (by simp [addAt]) (fun i hi => by simp [addAt, hi]), h1]
      omega
    · rw [if_neg e, ← h1]
      exact sumN_congr fun b _ => by simp [addAt, e]
  · have h1 : (0 : Int) + sumN q.n (fun k => c k b) = q.need b := h.col b hb
    show (0 : Int) + sumN q.n (fun k => addAt c s r (-(c s r)) k b) = if b = r then q.need b - c s r else q.need b
    by_cases e : b = r
    · subst e
      rw [if_pos rfl, sumN_at (n := q.n) (s := s) (f := fun k => c k b) (v := -(c s b)) hs (by simp [addAt]) (fun i hi => by simp [addAt, hi])]
      omega
    · rw [if_neg e, ← h1]
      congr 1
      exact sumN_congr fun k _ => by simp [addAt, e]
/-- what a flow gives is at most what the others leave over -/
theorem flow_le_lack {q : Pb} {c : Nat → Nat → Int} (h : Bf.Flow q c fun _ => 0) {s r : Nat} (hs : s < q.n) (hr : r < q.m) {D : Nat → Bool} (hD : D r = false) (ht : touches q D s = true) : c s r ≤ - lackOf q D := by
  have e := h.lackOf_eq D
  have z : (sumN q.m fun b => if D b = true then (0 : Int) else 0) = 0 := sumN_zero fun _ _ => by split <;> rfl
  rw [z, Int.zero_add] at e
  let f := fun k => (sumN q.m fun b => if D b = true then c k b else 0) - if touches q D k = true then q.sup k else 0
  have hf : ∀ k, k < q.n → f k ≤ 0 := fun k hk => by
    have := h.part_le D hk
    show (sumN q.m fun b => if D b = true then c k b else 0) - (if touches q D k = true then q.sup k else 0) ≤ 0
    omega
  have h1 := sumN_le_of_mem (f := fun k => - f k) (n := q.n) (k := s) (fun k hk => by have := hf k hk; show 0 ≤ - f k; omega) hs
  have h2 : (sumN q.n fun k => - f k) = - sumN q.n f := by
    have := sumN_sub (fun _ => 0) f q.n
    rw [sumN_zero (f := fun _ => 0) (fun _ _ => rfl)] at this
    simpa using this
  have h3 : sumN q.n f = lackOf q D := e.symm
  have h4 : (sumN q.m fun b => if D b = true then c s b else 0) + c s r ≤ q.sup s := by
    rw [← h.row s hs]
    have h5 : sumN q.m (fun b => if D b = true then c s b else 0) + c s r = sumN q.m (fun b => if b = r then c s b else if D b = true then c s b else 0) := by
      rw [sumN_at (n := q.m) (s := r) (f := fun b => if D b = true then c s b else 0) (g := fun b => if b = r then c s b else if D b = true then c s b else 0) (v := c s r) hr (by simp [hD]) (fun i hi => by simp [hi])]
    rw [h5]
    have h6 : sumN q.m (fun b => if b = r then c s b else if D b = true then c s b else 0) ≤ sumN q.m (c s) := sumN_le fun b hb => by
      have := h.nn s hs b (by omega)
      split
      · exact Int.le_refl _
      · split <;> omega
    have h7 := h.nn s hs q.m (Nat.le_refl _)
    have h8 : sumN (q.m + 1) (c s) = sumN q.m (c s) + c s q.m := rfl
    omega
  have h9 : f s ≤ - c s r := by
    show (sumN q.m fun b => if D b = true then c s b else 0) - (if touches q D s = true then q.sup s else 0) ≤ - c s r
    rw [if_pos ht]
    omega
  have h1 : - f s ≤ sumN q.n fun k => - f k := h1
  omega
/-- sums of requests, of supplies but for one -/
def needN (q : Pb) (D : Nat → Bool) : Int := sumN q.m fun b => if D b = true then q.need b else 0
def covN (q : Pb) (s : Nat) (D : Nat → Bool) : Int := sumN q.n fun k => if k = s then 0 else if touches q D k = true then q.sup k else 0
theorem lack_cov (q : Pb) {s : Nat} (hs : s < q.n) (D : Nat → Bool) : lackOf q D = needN q D - covN q s D - if touches q D s = true then q.sup s else 0 := by
  unfold lackOf needN covN
  rw [sumN_at (n := q.n) (s := s) (f := fun k => if k = s then 0 else if touches q D k = true then q.sup k else 0) (g := fun k => if touches q D k = true then q.sup k else 0) (v := if touches q D s = true then q.sup s else 0) hs (by simp) (fun i hi => by simp [hi])]
  omega
theorem need_split (q : Pb) (D E : Nat → Bool) : needN q D + needN q E = needN q (fun b => D b || E b) + needN q (fun b => D b && E b) := by
  unfold needN
  rw [← sumN_add, ← sumN_add]
  exact sumN_congr fun b _ => by cases hD : D b <;> cases hE : E b <;> simp [hD, hE]
theorem touches_or (q : Pb) (D E : Nat → Bool) (k : Nat) : touches q (fun b => D b || E b) k = (touches q D k || touches q E k) := by
  rw [Bool.eq_iff_iff, Bool.or_eq_true, touches_iff, touches_iff, touches_iff]
  constructor
  · rintro ⟨b, h1, h2, h3⟩
    simp at h2
    rcases h2 with h2 | h2
    · exact .inl ⟨b, h1, h2, h3⟩
    · exact .inr ⟨b, h1, h2, h3⟩
  · rintro (⟨b, h1, h2, h3⟩ | ⟨b, h1, h2, h3⟩)
    · exact ⟨b, h1, by simp [h2], h3⟩
    · exact ⟨b, h1, by simp [h2], h3⟩
theorem touches_and (q : Pb) (D E : Nat → Bool) (k : Nat) (h : touches q (fun b => D b && E b) k = true) : touches q D k = true ∧ touches q E k = true := by
  obtain ⟨b, h1, h2, h3⟩ := touches_iff.1 h
  simp at h2
  exact ⟨touches_iff.2 ⟨b, h1, h2.1, h3⟩, touches_iff.2 ⟨b, h1, h2.2, h3⟩⟩
theorem cov_split (q : Pb) (s : Nat) (hp : ∀ k, k < q.n → 0 ≤ q.sup k) (D E : Nat → Bool) : covN q s (fun b => D b || E b) + covN q s (fun b => D b && E b) ≤ covN q s D + covN q s E := by
  unfold covN
  rw [← sumN_add, ← sumN_add]
  refine sumN_le fun k hk => ?_
  have h0 := hp k hk
  by_cases e : k = s
  · simp [e]
  · simp only [if_neg e]
    rw [touches_or]
    have h1 := touches_and q D E k
    cases h2 : touches q (fun b => D b && E b) k
    · cases touches q D k <;> cases touches q E k <;> simp <;> omega
    · obtain ⟨h3, h4⟩ := h1 h2
      rw [h3, h4]
      simp
theorem cov_mono (q : Pb) (s : Nat) (hp : ∀ k, k < q.n → 0 ≤ q.sup k) {D E : Nat → Bool} (h : ∀ b, D b = true → E b = true) : covN q s D ≤ covN q s E := by
  refine sumN_le fun k hk => ?_
  have h0 := hp k hk
  by_cases e : k = s
  · simp [e]
  · simp only [if_neg e]
    cases h1 : touches q D k
    · simp
      split <;> omega
    · obtain ⟨b, g1, g2, g3⟩ := touches_iff.1 h1
      have : touches q E k = true := touches_iff.2 ⟨b, g1, h b g2, g3⟩
      simp [this]
/-- what is left is feasible when a request has got as much as possible -/
theorem room_feas {q : Pb} (hp : ∀ k, k < q.n → 0 ≤ q.sup k) (hn : ∀ b, b < q.m → 0 ≤ q.need b) (hf : Feas q) {s r : Nat} (hs : s < q.n) (hr : r < q.m) {v : Int} (l1 : v ≤ q.sup s) (l2 : v ≤ q.need r)
    (le : ∀ D : Nat → Bool, D r = false → touches q D s = true → v ≤ - lackOf q D) (is : v = q.sup s ∨ v = q.need r ∨ ∃ E : Nat → Bool, E r = false ∧ touches q E s = true ∧ v = - lackOf q E) : 0 ≤ v ∧ Feas (afterP q s r v) := by
  have hl := (feas_iff hp hn).1 hf
  have h0 : 0 ≤ v := by
    rcases is with h | h | ⟨E, -, -, h⟩
    · rw [h]; exact hp s hs
    · rw [h]; exact hn r hr
    · have := hl E; omega
  refine ⟨h0, hall (fun k hk => ?_) (fun b hb => ?_) fun D => ?_⟩
  · show 0 ≤ if k = s then q.sup k - v else q.sup k
    have := hp k hk
    split
    · rename_i e; subst e; omega
    · exact this
  · show 0 ≤ if b = r then q.need b - v else q.need b
    have := hn b hb
    split
    · rename_i e; subst e; omega
    · exact this
  -- the lack after
  have hneed : needN (afterP q s r v) D = needN q D - if D r = true then v else 0 := by
    unfold needN
    show (sumN q.m fun b => if D b = true then (if b = r then q.need b - v else q.need b) else 0) = _
    cases hD : D r
    · simp only [Bool.false_eq_true, if_false, Int.sub_zero]
      exact sumN_congr fun b _ => by
        by_cases e : b = r
        · subst e; simp [hD]
        · simp [e]
    · rw [sumN_at (n := q.m) (s := r) (f := fun b => if D b = true then q.need b else 0) (v := -v) hr (by simp [hD]; omega) (fun i hi => by simp [hi])]
      simp
      omega
  have htk : ∀ k, k ≠ s → touches (afterP q s r v) D k = touches q D k := fun k hk => by
    rw [Bool.eq_iff_iff, touches_iff, touches_iff]
    simp [afterP, hk]
  have hcov : covN (afterP q s r v) s D = covN q s D := by
    refine sumN_congr fun k _ => ?_
    by_cases e : k = s
    · simp [e]
    · simp only [if_neg e]
      rw [htk k e]
      show (if touches q D k = true then (if k = s then q.sup k - v else q.sup k) else 0) = _
      rw [if_neg e]
  have hts : touches (afterP q s r v) D s = true ↔ ∃ b, b < q.m ∧ D b = true ∧ b ≠ r ∧ q.fits s b = true := by
    rw [touches_iff]
    simp only [afterP, Bool.and_eq_true, Bool.not_eq_true', decide_true, Bool.true_and, decide_eq_false_iff_not]
    exact ⟨fun ⟨b, h1, h2, h3, h4⟩ => ⟨b, h1, h2, h4, h3⟩, fun ⟨b, h1, h2, h3, h4⟩ => ⟨b, h1, h2, h4, h3⟩⟩
  have hsup : (afterP q s r v).sup s = q.sup s - v := by simp [afterP]
  rw [lack_cov (afterP q s r v) (s := s) hs, hneed, hcov, hsup]
  have hD := hl D
  rw [lack_cov q hs D] at hD
  by_cases ht : touches (afterP q s r v) D s = true
  · rw [if_pos ht]
    obtain ⟨b, b1, b2, b3, b4⟩ := hts.1 ht
    have htq : touches q D s = true := touches_iff.2 ⟨b, b1, b2, b4⟩
    rw [if_pos htq] at hD
    cases hDr : D r
    · have := le D hDr htq
      rw [lack_cov q hs D, if_pos htq] at this
      simp
      omega
    · simp
      omega
  · rw [if_neg ht]
    have hno : ∀ b, b < q.m → D b = true → b ≠ r → q.fits s b = false := fun b h1 h2 h3 => by
      cases h : q.fits s b
      · rfl
      · exact absurd (hts.2 ⟨b, h1, h2, h3, h⟩) ht
    cases hDr : D r
    · have htq : touches q D s = false := by
        cases h : touches q D s
        · rfl
        · obtain ⟨b, h1, h2, h3⟩ := touches_iff.1 h
          rw [hno b h1 h2 (fun e => by rw [e, hDr] at h2; cases h2)] at h3
          cases h3
      rw [htq] at hD
      simp at hD ⊢
      omega
    · simp only [if_true, Int.sub_zero]
      rcases is with h | h | ⟨E, e1, e2, h⟩
      · have : (if touches q D s = true then q.sup s else 0) ≤ q.sup s := by
          have := hp s hs
          split <;> omega
        omega
      · have h1 := hl fun b => D b && !decide (b = r)
        have h2 : touches q (fun b => D b && !decide (b = r)) s = false := by
          cases h : touches q (fun b => D b && !decide (b = r)) s
          · rfl
          · obtain ⟨b, h1, h2, h3⟩ := touches_iff.1 h
            simp at h2
            rw [hno b h1 h2.1 h2.2] at h3
            cases h3
        rw [lack_cov q hs, h2] at h1
        have h3 : needN q D = needN q (fun b => D b && !decide (b = r)) + q.need r := by
          unfold needN
          rw [sumN_at (n := q.m) (s := r) (f := fun b => if (D b && !decide (b = r)) = true then q.need b else 0) (g := fun b => if D b = true then q.need b else 0) (v := q.need r) hr (by simp [hDr]) (fun i hi => by simp [hi])]
        have h4 := cov_mono q s hp (D := fun b => D b && !decide (b = r)) (E := D) (fun b h => by simp at h; exact h.1)
        simp at h1
        omega
      · have h1 := hl fun b => D b || E b
        have h2 := hl fun b => D b && E b
        have h3 : touches q (fun b => D b || E b) s = true := by rw [touches_or, e2, Bool.or_true]
        have h4 : touches q (fun b => D b && E b) s = false := by
          cases h : touches q (fun b => D b && E b) s
          · rfl
          · obtain ⟨b, g1, g2, g3⟩ := touches_iff.1 h
            simp at g2
            rw [hno b g1 g2.1 (fun e => by rw [e, e1] at g2; cases g2.2)] at g3
            cases g3
        rw [lack_cov q hs, if_pos h3] at h1
        rw [lack_cov q hs, h4] at h2
        rw [lack_cov q hs E, if_pos e2] at h
        have h5 := need_split q D E
        have h6 := cov_split q s hp D E
        simp at h2
        omega
/-- amounts already given, in order -/
def placed (s r k b : Nat) : Bool := decide (k < s) || (decide (k = s) && decide (b < r))
def mergeA (a c : Nat → Nat → Int) (m s r k b : Nat) : Int := if placed s r k b = true ∧ b < m then a k b else c k b
def restA (a : Nat → Nat → Int) (m s r k b : Nat) : Int := if placed s r k b = true ∧ b < m then 0 else a k b
structure Resid (p : Pb) (a : Nat → Nat → Int) (q : Pb) (s r : Nat) : Prop where
  n : q.n = p.n
  m : q.m = p.m
  up : ∀ c, (Bf.Flow q c fun _ => 0) → Bf.Flow p (mergeA a c p.m s r) fun _ => 0
  dn : Bf.Flow q (restA a p.m s r) fun _ => 0
theorem Resid.start {p : Pb} {a : Nat → Nat → Int} (h : Bf.Flow p a fun _ => 0) : Resid p a p 0 0 := by
  have e : ∀ k b, placed 0 0 k b = false := fun k b => by simp [placed]
  exact ⟨rfl, rfl, fun c hc => Flow.congr hc fun k _ b _ => by simp [mergeA, e], Flow.congr h fun k _ b _ => by simp [restA, e]⟩
theorem placed_succ (s r k b : Nat) : placed s (r + 1) k b = (placed s r k b || (decide (k = s) && decide (b = r))) := by
  unfold placed
  rw [Bool.eq_iff_iff]
  simp
  omega
theorem Resid.step {p : Pb} {a : Nat → Nat → Int} {q : Pb} {s r : Nat} (h : Resid p a q s r) (hs : s < p.n) (hr : r < p.m) (hf : q.fits s r = true) : Resid p a (afterP q s r (a s r)) s (r + 1) := by
  have hn := h.n
  have hm := h.m
  have hsr : placed s r s r = false := by simp [placed]
  have hrs : restA a p.m s r s r = a s r := by unfold restA; rw [hsr]; simp
  have hnn := h.dn.nn s (by omega) r (by omega)
  rw [hrs] at hnn
  refine ⟨hn, hm, fun c hc => ?_, ?_⟩
  · have hz : c s r = 0 := by
      by_cases e : c s r = 0
      · exact e
      · have := hc.ok s (by show s < q.n; omega) r (by show r < q.m; omega) e
        simp [afterP] at this
    refine Flow.congr (h.up _ (flow_add (by omega) (by omega) hf hnn hc)) fun k _ b _ => ?_
    unfold mergeA addAt
    rw [placed_succ]
    by_cases e : k = s ∧ b = r
    · obtain ⟨rfl, rfl⟩ := e
      rw [hsr]
      simp [hr, hz]
    · have e2 : (decide (k = s) && decide (b = r)) = false := by
        simp
        omega
      rw [e2, Bool.or_false, if_neg e]
  · have h1 := flow_sub (q := q) (s := s) (r := r) (by omega) (by omega) h.dn
    rw [hrs] at h1
    refine Flow.congr h1 fun k _ b _ => ?_
    unfold addAt restA
    rw [placed_succ]
    by_cases e : k = s ∧ b = r
    · obtain ⟨rfl, rfl⟩ := e
      rw [hsr]
      simp [hr]
      omega
    · have e2 : (decide (k = s) && decide (b = r)) = false := by
        simp
        omega
      rw [e2, Bool.or_false, if_neg e]
theorem Resid.zero {p : Pb} {a : Nat → Nat → Int} {q : Pb} {s r : Nat} (h : Resid p a q s r) (hs : s < p.n) (hr : r < p.m) (hf : q.fits s r = false) : a s r = 0 := by
  have hn := h.n
  have hm := h.m
  have hsr : placed s r s r = false := by simp [placed]
  have hrs : restA a p.m s r s r = a s r := by unfold restA; rw [hsr]; simp
  by_cases e : a s r = 0
  · exact e
  · have := h.dn.ok s (by omega) r (by omega) (by rw [hrs]; exact e)
    rw [hf] at this; cases this
theorem Resid.skip {p : Pb} {a : Nat → Nat → Int} {q : Pb} {s r : Nat} (h : Resid p a q s r) (hs : s < p.n) (hr : r < p.m) (hf : q.fits s r = false) : Resid p a q s (r + 1) := by
  have hn := h.n
  have hm := h.m
  have hsr : placed s r s r = false := by simp [placed]
  have h0 := h.zero hs hr hf
  refine ⟨hn, hm, fun c hc => ?_, ?_⟩
  · have hz : c s r = 0 := by
      by_cases e : c s r = 0
      · exact e
      · have := hc.ok s (by omega) r (by omega) e
        rw [hf] at this; cases this
    refine Flow.congr (h.up _ hc) fun k _ b _ => ?_
    unfold mergeA
    rw [placed_succ]
    by_cases e : k = s ∧ b = r
    · obtain ⟨rfl, rfl⟩ := e
      rw [hsr]
      simp [hz, h0]
    · have e2 : (decide (k = s) && decide (b = r)) = false := by
        simp
        omega
      rw [e2, Bool.or_false]
  · refine Flow.congr h.dn fun k _ b _ => ?_
    unfold restA
    rw [placed_succ]
    by_cases e : k = s ∧ b = r
    · obtain ⟨rfl, rfl⟩ := e
      rw [hsr]
      simp [h0]
    · have e2 : (decide (k = s) && decide (b = r)) = false := by
        simp
        omega
      rw [e2, Bool.or_false]
theorem placed_row (s m k b : Nat) (hb : b < m) : placed (s + 1) 0 k b = placed s m k b := by
  unfold placed
  rw [Bool.eq_iff_iff]
  simp
  omega
theorem Resid.row {p : Pb} {a : Nat → Nat → Int} {q : Pb} {s : Nat} (h : Resid p a q s p.m) : Resid p a q (s + 1) 0 := by
  refine ⟨h.n, h.m, fun c hc => Flow.congr (h.up c hc) fun k _ b _ => ?_, Flow.congr h.dn fun k _ b _ => ?_⟩
  · unfold mergeA
    by_cases hb : b < p.m
    · rw [placed_row s p.m k b hb]
    · simp [hb]
  · unfold restA
    by_cases hb : b < p.m
    · rw [placed_row s p.m k b hb]
    · simp [hb]
/-- as much as possible is what the greatest allocation has -/
theorem Resid.room {p : Pb} {a : Nat → Nat → Int} {q : Pb} {s r : Nat} (hmax : LexMax p a) (h : Resid p a q s r) (hs : s < p.n) (hr : r < p.m) (hf : q.fits s r = true) (hp : ∀ k, k < q.n → 0 ≤ q.sup k) (hn : ∀ b, b < q.m → 0 ≤ q.need b) {v : Int} (l1 : v ≤ q.sup s) (l2 : v ≤ q.need r)
    (le : ∀ D : Nat → Bool, D r = false → touches q D s = true → v ≤ - lackOf q D) (is : v = q.sup s ∨ v = q.need r ∨ ∃ E : Nat → Bool, E r = false ∧ touches q E s = true ∧ v = - lackOf q E) : v = a s r := by
  have hqn := h.n
  have hqm := h.m
  have hsr : placed s r s r = false := by simp [placed]
  have hrs : restA a p.m s r s r = a s r := by unfold restA; rw [hsr]; simp
  have h1 : a s r ≤ v := by
    rcases is with e | e | ⟨E, e1, e2, e⟩
    · have := sumN_le_of_mem (f := restA a p.m s r s) (n := q.m + 1) (k := r) (fun b hb => h.dn.nn s (by omega) b (by omega)) (by omega)
      rw [h.dn.row s (by omega), hrs] at this
      omega
    · have := sumN_le_of_mem (f := fun k => restA a p.m s r k r) (n := q.n) (k := s) (fun k hk => h.dn.nn k hk r (by omega)) (by omega)
      have h2 : (0 : Int) + sumN q.n (fun k => restA a p.m s r k r) = q.need r := h.dn.col r (by omega)
      simp only [hrs] at this
      omega
    · have := flow_le_lack h.dn (s := s) (r := r) (by omega) (by omega) e1 e2
      rw [hrs] at this
      omega
  obtain ⟨h0, c, hc⟩ := room_feas hp hn ⟨_, h.dn⟩ (s := s) (r := r) (by omega) (by omega) l1 l2 le is
  have hz : c s r = 0 := by
    by_cases e : c s r = 0
    · exact e
    · have := hc.ok s (by show s < q.n; omega) r (by show r < q.m; omega) e
      simp [afterP] at this
  have h2 := hmax.2 _ (h.up _ (flow_add (by omega) (by omega) hf h0 hc)) s hs r hr (fun k hk b hb => by
    unfold mergeA
    rw [if_pos ⟨by simp [placed, hk], hb⟩]) (fun b hb => by
    unfold mergeA
    rw [if_pos ⟨by simp [placed, hb], by omega⟩])
  unfold mergeA addAt at h2
  rw [hsr] at h2
  simp [hz] at h2
  omega
end Go.Proofs.Ytgnipfjjkliibaa

/-
  Matching: the contract of the reference's Flow.
  Conditions: none.
-/
namespace Go.Proofs.Ytgnipfjjkliibaa
open Go Bf
attribute [local irreducible] Tr Exec Stab HasTy Go.Addr.add IntKind.wrap
theorem RoomV.amount {can : List (List Bool)} {left op : List Int} (hv : Vld can left op) {p : Pb} {a : Nat → Nat → Int} (hmax : LexMax p a) {s r : Nat} (hR : Resid p a (pbOf can left op) s r) (hs : s < left.length) (hr : r < op.length) (hf : (can.getD s []).getD r false = true) {v : Int} (h : RoomV can left op s r (2 ^ op.length) v) : v = a s r ∧ 0 ≤ v := by
  have hn := hR.n
  have hm := hR.m
  have e : v = a s r := by
    refine hR.room hmax (by rw [← hn]; exact hs) (by rw [← hm]; exact hr) hf hv.sup0 hv.need0 h.l1 h.l2 (fun D hD ht => ?_) ?_
    · rw [lackOf_bits hv]
      obtain ⟨b, b1, b2, b3⟩ := touches_iff.1 ht
      have b1' : b < op.length := b1
      have htb : (bitsOf D op.length).testBit b = true := by rw [bitsOf_bit]; simp [b1', b2]
      have h0 : bitsOf D op.length ≠ 0 := fun e => by rw [e] at htb; simp at htb
      refine h.le _ (by omega) (bitsOf_lt _ _) (by rw [bitsOf_bit, hD, Bool.and_false]) ?_
      rw [touch_bits hv hs]
      exact touches_iff.2 ⟨b, b1, htb, b3⟩
    · rcases h.is with h | h | ⟨set, -, -, h1, h2, h3⟩
      · exact .inl h
      · exact .inr (.inl h)
      · refine .inr (.inr ⟨fun b => set.testBit b, h1, ?_, by rw [h3, lackB_eq hv]⟩)
        rw [touch_bits hv hs] at h2
        exact h2
  refine ⟨e, ?_⟩
  rw [e]
  exact hmax.1.nn s (by rw [← hn]; exact hs) r (by rw [← hm]; exact Nat.le_of_lt hr)
theorem getD_setL {α : Type} {l : List α} {i : Nat} {v d : α} (h : i < l.length) (k : Nat) : (l.set i v).getD k d = if k = i then v else l.getD k d := by
  by_cases e : k = i
  · subst e
    rw [if_pos rfl, List.getD_eq_getElem?_getD, List.getElem?_set_self h]; rfl
  · rw [if_neg e, List.getD_eq_getElem?_getD, List.getElem?_set_ne (Ne.symm e), ← List.getD_eq_getElem?_getD]
theorem pbOf_after {can : List (List Bool)} {left op : List Int} (hv : Vld can left op) {s r : Nat} (hs : s < left.length) (hr : r < op.length) {row : List Bool} (hrow : can[s]? = some row) (v x y : Int) (hx : left[s]? = some x) (hy : op[r]? = some y) :
    pbOf (can.set s (row.set r false)) (left.set s (x - v)) (op.set r (y - v)) = afterP (pbOf can left op) s r v := by
  have hl := hv.lf
  have hrl := hv.rows row (List.mem_of_getElem? hrow)
  unfold pbOf afterP
  simp only [List.length_set]
  congr
  · funext k b
    rw [getD_setL (by omega)]
    by_cases e : k = s
    · subst e
      rw [if_pos rfl, getD_setL (by omega), getD_of (d := []) hrow]
      by_cases e2 : b = r
      · simp [e2]
      · simp [e2]
    · simp [e]
  · funext k
    rw [getD_setL hs]
    by_cases e : k = s
    · subst e; rw [if_pos rfl, if_pos rfl, getD_of hx]
    · rw [if_neg e, if_neg e]
  · funext b
    rw [getD_setL hr]
    by_cases e : b = r
    · subst e; rw [if_pos rfl, if_pos rfl, getD_of hy]
    · rw [if_neg e, if_neg e]
theorem Vld.after {can : List (List Bool)} {left op : List Int} (hv : Vld can left op) {s r : Nat} {row : List Bool} (hrow : can[s]? = some row) {v x y : Int} (h0 : 0 ≤ v) (hx : left[s]? = some x) (hy : op[r]? = some y) (hvx : v ≤ x) (hvy : v ≤ y) : Vld (can.set s (row.set r false)) (left.set s (x - v)) (op.set r (y - v)) := by
  refine ⟨by simpa using hv.ls, by simpa using hv.ln, by simpa using hv.lf, fun q hq => ?_, fun z hz => ?_, fun z hz => ?_⟩
  · rw [List.length_set]
    rcases List.mem_or_eq_of_mem_set hq with hq | rfl
    · exact hv.rows q hq
    · rw [List.length_set]; exact hv.rows row (List.mem_of_getElem? hrow)
  · rcases List.mem_or_eq_of_mem_set hz with hz | rfl
    · exact hv.rs z hz
    · have := hv.rs x (List.mem_of_getElem? hx); omega
  · rcases List.mem_or_eq_of_mem_set hz with hz | rfl
    · exact hv.rn z hz
    · have := hv.rn y (List.mem_of_getElem? hy); omega
theorem rowC_get {cs : List RowC} {i : Nat} {x : RowC} (h : cs[i]? = some x) : (cs.map rowC)[i]? = some (ownS 4 1 x.1 x.2.2.length x.2.1 (boV x.2.2)) := by simp [h, rowC]
theorem room_lend (M : Mem) (B1 B2 B3 : Option Addr) (k1 k2 k3 : Nat) (cs : List RowC) (left op : List Int) (hk1 : k1 ≤ 9223372036854775807) (hk2 : k2 ≤ 9223372036854775807) (hk3 : k3 ≤ 9223372036854775807) (hc : ∀ x ∈ cs, x.2.1 ≤ 9223372036854775807) (hv : Vld (cs.map (·.2.2)) left op) (hn62 : op.length ≤ 61) (s r : Nat) (hsl : s < left.length) (hrl : r < op.length) (hok : CallOk Try.prog 65) :
    Bf.Fn Try.prog 65 [.slice B3 cs.length k3, .slice B1 left.length k1, .slice B2 op.length k2, .int .i64 (s : Int), .int .i64 (r : Int)] M [ownS 60 1 B3 cs.length k3 (ptrC cs), many (cs.map rowC), ownS 3 1 B1 left.length k1 (intV left), ownS 3 1 B2 op.length k2 (intV op)]
      (fun x M' A' => A' = [ownS 60 1 B3 cs.length k3 (ptrC cs), many (cs.map rowC), ownS 3 1 B1 left.length k1 (intV left), ownS 3 1 B2 op.length k2 (intV op)] ∧ M = M' ∧ ∃ v, x = .int .i64 v ∧ RoomV (cs.map (·.2.2)) left op s r (2 ^ op.length) v) := by
  refine Fn.lend (R := fun x => ∃ v, x = .int .i64 v ∧ RoomV (cs.map (·.2.2)) left op s r (2 ^ op.length) v) hok (fun M' hm hk => ?_)
  have h1 := hk (ownS 60 1 B3 cs.length k3 (ptrC cs)) (by simp)
  have h2 := hk (many (cs.map rowC)) (by simp)
  have h3 := hk (ownS 3 1 B1 left.length k1 (intV left)) (by simp)
  have h4 := hk (ownS 3 1 B2 op.length k2 (intV op)) (by simp)
  have hf := rowsC_fits h1 hk3 h2 hc
  have := room_fn M' B3 B1 B2 k3 k1 k2 (cs.map (·.2.2)) left op hf (Ints.ofOwn h3 rfl hk1) (Ints.ofOwn h4 rfl hk2) hv hn62 s r hsl hrl
  rw [List.length_map] at this
  exact this
/-- what the reference's Flow answers, where a is the greatest allocation if there is one -/
def FlowRa (fits : List (List Bool)) (sup need : List Int) (a : Nat → Nat → Int) (r : Value) (M' : Mem) : Prop :=
  (validF fits sup need = false ∧ r = .tuple #[.slice none 0 0, .bool false, .slice none 0 0, .int .i64 300]) ∨
  (Vld fits sup need ∧ ¬ Feas (pbOf fits sup need) ∧ ∃ B k, r = .tuple #[.slice none 0 0, .bool false, .slice B (memF (cutFin fits sup need) need.length).length k, .int .i64 0] ∧ Ints M' (.slice B (memF (cutFin fits sup need) need.length).length k) (memF (cutFin fits sup need) need.length)) ∨
  (Vld fits sup need ∧ Feas (pbOf fits sup need) ∧ ∃ A c, r = .tuple #[.slice A sup.length c, .bool true, .slice none 0 0, .int .i64 0] ∧ Ints2 M' (.slice A sup.length c) (allocOf a need.length sup.length))
end Go.Proofs.Ytgnipfjjkliibaa

/-
  Matching: the reference's Flow walked.
  Conditions: none.
-/
namespace Go.Proofs.Ytgnipfjjkliibaa
open Go Bf
attribute [local irreducible] Tr Exec Stab HasTy Go.Addr.add IntKind.wrap
theorem ptrC_set {cs : List RowC} {i : Nat} {x : RowC} (h : cs[i]? = some x) (row : List Bool) (hl : row.length = x.2.2.length) : ptrC (cs.set i (x.1, x.2.1, row)) = ptrC cs := by
  unfold ptrC
  rw [List.map_set]
  exact set_same (by simp [h, hl])
theorem rowOf_succ (a : Nat → Nat → Int) (m s : Nat) : (List.range (m + 1)).map (a s) = (List.range m).map (a s) ++ [a s m] := by simp [List.range_succ]
set_option maxHeartbeats 16000000 in
set_option maxRecDepth 20000 in
theorem rflow_fn (M : Mem) (A0 A1 A2 : Option Addr) (c0 c1 c2 : Nat) (fits : List (List Bool)) (sup need : List Int) (hf : Fits2 M (.slice A0 fits.length c0) fits) (hs : Ints M (.slice A1 sup.length c1) sup) (hn : Ints M (.slice A2 need.length c2) need) (hn61 : need.length ≤ 6 ∨ 64 < need.length) (a : Nat → Nat → Int) (hmax : Vld fits sup need → Feas (pbOf fits sup need) → LexMax (pbOf fits sup need) a) :
    Fn0 Try.prog 37 [.slice A0 fits.length c0, .slice A1 sup.length c1, .slice A2 need.length c2] M (fun r M' => FlowRa fits sup need a r M') := by
  refine Fn.intro Try.func37 rfl rfl Try.ntmps37 rfl fun E F => ?_
  repeat (first | ((with_reducible refine Tr.step rfl ?_); (first | (refine xmQ (z := ?_)) | (refine xaQ (z := ?_)))) | (with_reducible first | apply Tr.next | apply Tr.seq | apply Tr.region | apply Tr.nil))
  ((refine Tr.step rfl ?_)); refine Exec.call0 rfl (rValid_fn M A0 A1 A2 c0 c1 c2 fits sup need hf hs hn) rfl ?_
  rintro _ _ _ ⟨rfl, rfl⟩
  cases hvv : validF fits sup need
  · repeat (first | ((with_reducible refine Tr.step rfl ?_); (first | (refine xaQ (z := ?_)) | ((with_reducible refine Knd.unOp ?_); ((refine Exec.stab rfl (Stab.not rfl) rfl ?_))))) | (with_reducible first | apply Tr.next | apply Tr.seq | apply Tr.region | apply Tr.nil | apply Tr.ret | apply Tr.then_ret) | (refine Tr.cond_bt rfl (by first | (with_reducible rfl) | (with_reducible exact Bool.not_false)) ?_))
    (refine dnQ (hL := by exact ⟨[], rfl⟩) (k := ⟨rfl, ?_⟩))
    exact .inl ⟨hvv, rfl⟩
  have hv := vld_iff.1 hvv
  have l1 := hv.ls
  have l2 := hv.ln
  have l3 := hv.lf
  have hn62 : need.length ≤ 61 := by omega
  repeat (first | ((with_reducible refine Tr.step rfl ?_); (first | (refine xmQ (z := ?_)) | ((with_reducible refine Knd.unOp ?_); ((refine Exec.stab rfl (Stab.not rfl) rfl ?_))))) | (with_reducible first | apply Tr.next | apply Tr.seq | apply Tr.region | apply Tr.nil | apply Tr.skip) | (refine Tr.cond_bf rfl (by first | (with_reducible rfl) | (with_reducible exact Bool.not_true)) ?_))
  ((refine Tr.step rfl ?_)); refine Exec.call0 rfl (rcut_fn M A0 A1 A2 c0 c1 c2 fits sup need hf hs hn hv hn62) rfl ?_
  rintro _ M1 hm1 (⟨hposs, rfl⟩ | ⟨hposs, B, k, rfl, hI⟩)
  rotate_left
  · repeat (first | ((with_reducible refine Tr.step rfl ?_); (first | (refine xmQ (z := ?_)) | (refine xaQ (z := ?_)) | ((with_reducible refine Knd.extract ?_); (refine Exec.stab rfl (Stab.extract rfl rfl) rfl ?_)))) | (with_reducible first | apply Tr.next | apply Tr.seq | apply Tr.region | apply Tr.nil | apply Tr.ret | apply Tr.then_ret) | (refine Tr.cond_bt rfl (by (with_reducible rfl)) ?_))
    (refine dnQ (hL := by exact ⟨[], rfl⟩) (k := ⟨rfl, ?_⟩))
    rw [← memF_bits hv] at hI ⊢
    exact .inr (.inl ⟨hv, fun h => hposs ((feas_poss hv).1 h), B, k, rfl, hI⟩)
  have hfe := (feas_poss hv).2 hposs
  have hmx := hmax hv hfe
  repeat (first | ((with_reducible refine Tr.step rfl ?_); (first | (refine xmQ (z := ?_)) | (refine xaQ (z := ?_)) | ((with_reducible refine Knd.extract ?_); (refine Exec.stab rfl (Stab.extract rfl rfl) rfl ?_)))) | (with_reducible first | apply Tr.next | apply Tr.seq | apply Tr.region | apply Tr.nil | apply Tr.skip) | (refine Tr.cond_bf rfl (by (with_reducible rfl)) ?_))
  ((refine Tr.step rfl ?_))
  refine Exec.call (A := []) rfl (copyInts_fn M1 A1 c1 sup (hs.mono RI.mono hm1) (by omega)) (List.Perm.refl _) rfl ?_
  rintro _ _ _ _ ⟨B1, k1, rfl, hk1, rfl, rfl⟩
  repeat (first | ((with_reducible refine Tr.step rfl ?_); (first | (refine xmQ (z := ?_)) | (refine xaQ (z := ?_)))) | (with_reducible first | apply Tr.next | apply Tr.seq | apply Tr.region | apply Tr.nil))
  ((refine Tr.step rfl ?_))
  refine Exec.call (A := []) rfl (copyInts_fn M1 A2 c2 need (hn.mono RI.mono hm1) (by omega)) (List.Perm.refl _) rfl ?_
  rintro _ _ _ _ ⟨B2, k2, rfl, hk2, rfl, rfl⟩
  repeat (first | ((with_reducible refine Tr.step rfl ?_); (first | (refine xmQ (z := ?_)) | (refine xaQ (z := ?_)))) | (with_reducible first | apply Tr.next | apply Tr.seq | apply Tr.region | apply Tr.nil))
  ((refine Tr.step rfl ?_))
  refine Exec.call (A := []) rfl (copyRows_fn M1 A0 c0 fits (hf.mono RRowB.mono hm1) (by omega) (fun r hr => by rw [hv.rows r hr]; exact l2)) (List.Perm.refl _) rfl ?_
  rintro _ _ _ _ ⟨B3, k3, cs, rfl, hk3, hcs, hcap, rfl, rfl⟩
  repeat (first | ((with_reducible refine Tr.step rfl ?_); (first | (refine xaQ (z := ?_)) | ((with_reducible refine Knd.buildSlice ?_); ((refine Exec.buildSlice (tysOk.get rfl) rfl (tysOk.get rfl) rfl rfl rfl rfl rfl (by repeat (exact BuildP.nil)) rfl (fun b => ?_)))))) | (with_reducible first | apply Tr.next | apply Tr.seq | apply Tr.region | apply Tr.nil | apply Tr.block))
  refine Tr.box_own (e := 45) 1 0 (by repeat (first | exact Upd.here | apply Upd.there)) rfl (by intro u hu; cases hu) (by simp [maxLen]) ?_
  have hrok : 0 < sup.length → 0 < need.length → CallOk Try.prog 65 := fun h1 h2 => clone_ok _ _ _ _ _ _ (room_fn M A0 A1 A2 c0 c1 c2 fits sup need hf hs hn hv hn62 0 0 h1 h2)
  have hcl : cs.length = fits.length := by rw [← hcs]; simp
  simp only [List.cons_append, List.nil_append, List.append_eq]
  refine Tr.loop (α := Nat × List RowC × List Int × List Int × Mem × Option Addr × Nat × List Value) (fun y => ⟨100, [(16, .int .i64 (y.1 : Int)), (15, .slice y.2.2.2.2.2.1 y.1 y.2.2.2.2.2.2.1), (14, .slice B3 fits.length k3), (13, .slice B2 need.length k2), (12, .slice B1 sup.length k1), (1, .slice A1 sup.length c1), (2, .slice A2 need.length c2)], [], y.2.2.2.2.1, ownS 45 1 y.2.2.2.2.2.1 y.1 y.2.2.2.2.2.2.1 y.2.2.2.2.2.2.2 :: ownS 60 1 B3 fits.length k3 (ptrC y.2.1) :: many (y.2.1.map rowC) :: ownS 3 1 B2 need.length k2 (intV y.2.2.2.1) :: ownS 3 1 B1 sup.length k1 (intV y.2.2.1) :: F⟩)
    (fun y => y.1 ≤ sup.length ∧ y.2.1.length = fits.length ∧ (∀ x ∈ y.2.1, x.2.1 ≤ 9223372036854775807) ∧ y.2.2.1.length = sup.length ∧ y.2.2.2.1.length = need.length ∧ Vld (y.2.1.map (·.2.2)) y.2.2.1 y.2.2.2.1 ∧ Resid (pbOf fits sup need) a (pbOf (y.2.1.map (·.2.2)) y.2.2.1 y.2.2.2.1) y.1 0 ∧ Mem.le M1 y.2.2.2.2.1 ∧ y.2.2.2.2.2.2.1 ≤ 9223372036854775807 ∧ Elems 1 RRowI y.2.2.2.2.1 y.2.2.2.2.2.2.2 (allocOf a need.length y.1)) (fun y => sup.length - y.1) (0, cs, sup, need, M1, _, 0, _) ⟨Nat.zero_le _, hcl, hcap, rfl, rfl, by simp only [hcs]; exact hv, by simp only [hcs]; exact Resid.start hmx.1, Mem.le.refl _, by simp, Elems.nil⟩ hsQ (fun y hy => ?_)
  clear hcs hcap hcl
  obtain ⟨s, cs, left, op, M2, A6, c6, cells⟩ := y
  obtain ⟨hi, hcl, hcap, hll, hol, hvl, hres, hM, hc6, hel⟩ := hy
  simp only at hi hcl hcap hll hol hvl hres hM hc6 hel
  dsimp only
  have hcel : cells.length = s := by have := hel.1; simpa using this
  by_cases hin : s < sup.length
  rotate_left
  · have ei : s = sup.length := by omega
    subst ei
    repeat (first | ((with_reducible refine Tr.step rfl ?_); (first | (refine xmQ (z := ?_)) | (refine xaQ (z := ?_)) | (refine xnQ (z := ?_)) | (refine xiQ (z := ?_)))) | (with_reducible first | apply Tr.next | apply Tr.seq | apply Tr.region | apply Tr.nil | apply Tr.exit | apply Tr.ret | apply Tr.then_exit) | ((with_reducible refine Tr.in_exit ?_ ?_); (exact rfl)) | (refine Tr.cond_f rfl (by first | (with_reducible assumption) | omega) ?_))
    refine pbQ (r := ownS 45 1 A6 _ _ _) (k := fun M3 hm3 hok => ?_)
    have hfin := (hm1.trans hM).trans hm3
    have hI : Ints2 M3 (.slice A6 (allocOf a need.length sup.length).length c6) (allocOf a need.length sup.length) := SlOf.ofOwn hok (by simp) hc6 (hel.mono RRowI.mono hm3)
    rw [allocOf_length] at hI
    (refine dnQ (hL := by exact ⟨[_, _, _, _], rfl⟩) (k := ⟨rfl, ?_⟩))
    exact .inr (.inr ⟨hv, hfe, A6, c6, rfl, hI⟩)
  repeat (first | ((with_reducible refine Tr.step rfl ?_); (first | (refine xmQ (z := ?_)) | (refine xaQ (z := ?_)) | (refine xnQ (z := ?_)) | (refine xiQ (z := ?_)) | ((with_reducible refine Knd.buildSlice ?_); ((refine Exec.buildSlice (tysOk.get rfl) rfl (tysOk.get rfl) rfl rfl rfl rfl rfl (by repeat (exact BuildP.nil)) rfl (fun b => ?_)))))) | (with_reducible first | apply Tr.next | apply Tr.seq | apply Tr.region | apply Tr.nil | apply Tr.skip | apply Tr.block) | (refine Tr.cond_t rfl (by first | (with_reducible assumption) | omega) ?_))
  refine Tr.box_own (e := 3) 1 0 (by repeat (first | exact Upd.here | apply Upd.there)) rfl (by intro u hu; cases hu) (by simp [maxLen]) ?_
  refine Tr.loop (α := Nat × List RowC × List Int × List Int × Option Addr × Nat) (fun y => ⟨100, [(18, .int .i64 (y.1 : Int)), (17, .slice y.2.2.2.2.1 y.1 y.2.2.2.2.2), (16, .int .i64 (s : Int)), (15, .slice A6 s c6), (14, .slice B3 fits.length k3), (13, .slice B2 need.length k2), (12, .slice B1 sup.length k1), (1, .slice A1 sup.length c1), (2, .slice A2 need.length c2)], [], M2, ownS 3 1 y.2.2.2.2.1 y.1 y.2.2.2.2.2 (intV ((List.range y.1).map (a s))) :: ownS 45 1 A6 s c6 cells :: ownS 60 1 B3 fits.length k3 (ptrC y.2.1) :: many (y.2.1.map rowC) :: ownS 3 1 B2 need.length k2 (intV y.2.2.2.1) :: ownS 3 1 B1 sup.length k1 (intV y.2.2.1) :: F⟩)
    (fun y => y.1 ≤ need.length ∧ y.2.1.length = fits.length ∧ (∀ x ∈ y.2.1, x.2.1 ≤ 9223372036854775807) ∧ y.2.2.1.length = sup.length ∧ y.2.2.2.1.length = need.length ∧ Vld (y.2.1.map (·.2.2)) y.2.2.1 y.2.2.2.1 ∧ Resid (pbOf fits sup need) a (pbOf (y.2.1.map (·.2.2)) y.2.2.1 y.2.2.2.1) s y.1 ∧ y.2.2.2.2.2 ≤ 9223372036854775807) (fun y => need.length - y.1) (0, cs, left, op, _, 0) ⟨Nat.zero_le _, hcl, hcap, hll, hol, hvl, hres, by simp⟩ hsQ (fun y hy => ?_)
  clear hcl hcap hll hol hvl hres
  obtain ⟨r, cs, left, op, A7, c7⟩ := y
  obtain ⟨hr, hcl, hcap, hll, hol, hvl, hres, hc7⟩ := hy
  simp only at hr hcl hcap hll hol hvl hres hc7
  dsimp only
  have hrl : ((List.range r).map (a s)).length = r := by simp
  by_cases hrn : r < need.length
  rotate_left
  · have er : r = need.length := by omega
    subst er
    repeat (first | ((with_reducible refine Tr.step rfl ?_); (first | (refine xmQ (z := ?_)) | (refine xnQ (z := ?_)) | (refine xiQ (z := ?_)) | ((with_reducible refine Knd.buildSlice ?_); ((refine Exec.buildSlice (tysOk.get rfl) rfl (tysOk.get rfl) rfl rfl rfl rfl rfl (by repeat (first | exact BuildP.nil | ((apply BuildP.one); (rfl); (rfl); (first | rfl | assumption); (repeat (first | exact SetL.z | apply SetL.s))))) rfl (fun b => ?_)))))) | (with_reducible first | apply Tr.next | apply Tr.seq | apply Tr.region | apply Tr.nil | apply Tr.exit | apply Tr.then_exit) | ((with_reducible refine Tr.in_exit ?_ ?_); (exact rfl)) | (refine Tr.cond_f rfl (by first | (with_reducible assumption) | omega) ?_))
    refine pbQ (r := ownS 3 1 A7 _ _ _) (k := fun M3 hm3 hok => ?_)
    have hI : Ints M3 (.slice A7 (rowOf a need.length s).length c7) (rowOf a need.length s) := Ints.ofOwn hok (by simp) hc7
    repeat (fail)
    refine Tr.cells (cs' := [.slice A7 need.length c7]) (by repeat (first | exact Upd.here | apply Upd.there)) rfl ?_
    ((refine Tr.step rfl ?_))
    refine Exec.append (A := A6) (news := [.slice A7 need.length c7]) rfl rfl (tysOk.get rfl) rfl (tysOk.get rfl) rfl rfl rfl rfl (by repeat (first | exact Del.here | apply Del.there)) (Src.box (by repeat (first | exact Has.here | apply Has.there))) rfl (by intro u hu; simp at hu; subst hu; rfl) (by omega) (by omega) rfl (fun A8 c8 hc8 => ?_)
    have hel2 : Elems 1 RRowI M3 (cells ++ [.slice A7 need.length c7]) (allocOf a need.length (s + 1)) := by
      rw [allocOf_succ]
      exact (hel.mono RRowI.mono hm3).append (Elems.one rfl ⟨A7, c7, by rw [rowOf_length], hI⟩)
    repeat (first | ((with_reducible refine Tr.step rfl ?_); (first | (refine xmQ (z := ?_)) | (refine xaQ (z := ?_)) | (refine xdQ (z := ?_)))) | (with_reducible first | apply Tr.next | apply Tr.region | apply Tr.nil | apply Tr.in_normal))
    refine gvQ (r := box _ 45 [_]) (k := ?_)
    refine Tr.again (s + 1, cs, left, op, M3, A8, c8, cells ++ [.slice A7 need.length c7]) ⟨by simp only; omega, hcl, hcap, hll, hol, hvl, hres.row, hM.trans hm3, hc8, hel2⟩ (by simp only; omega) hsQ
  obtain ⟨x, hx⟩ := get_of_lt (xs := cs) (i := s) (by omega)
  obtain ⟨xA, xc, row⟩ := x
  have hrow : (cs.map (·.2.2))[s]? = some row := by simp [hx]
  have hrowl := hvl.rows row (List.mem_of_getElem? hrow)
  obtain ⟨f, hfx⟩ := get_of_lt (xs := row) (i := r) (by omega)
  have hfb := boV_get hfx
  have hfd : ((cs.map (·.2.2)).getD s []).getD r false = f := by rw [getD_of (d := []) hrow, getD_of (d := false) hfx]
  have hp' : (ptrC cs)[s]? = some (.slice xA row.length xc) := by simp [ptrC, hx]
  obtain ⟨lv, hlv⟩ := get_of_lt (xs := left) (i := s) (by omega)
  obtain ⟨ov, hov⟩ := get_of_lt (xs := op) (i := r) (by omega)
  have hlvv := intV_get hlv
  have hovv := intV_get hov
  have hlr := hvl.rs lv (List.mem_of_getElem? hlv)
  have hor := hvl.rn ov (List.mem_of_getElem? hov)
  refine Tr.own_some B3 (by repeat (first | exact Has.here | apply Has.there)) (by omega) (fun hB3 => ?_)
  refine Tr.many_out (by repeat (first | exact Del.here | apply Del.there)) (rowC_get hx) ?_
  dsimp only
  refine Tr.own_some xA (by repeat (first | exact Has.here | apply Has.there)) (by omega) (fun hxA => ?_)
  cases f
  · have h0 := hres.zero hin hrn hfd
    repeat (first | ((with_reducible refine Tr.step rfl ?_); (first | (refine xmQ (z := ?_)) | (refine xaQ (z := ?_)) | ((with_reducible refine Knd.load ?_); ((refine Exec.stab rfl (Stab.loadO rfl (tysOk.get rfl) rfl (by repeat (first | exact Has.here | apply Has.there)) (by assumption)) rfl ?_))) | (refine xnQ (z := ?_)) | (refine xiQ (z := ?_)) | (refine xxQ (z := ?_)) | ((with_reducible refine Knd.buildSlice ?_); ((refine Exec.buildSlice (tysOk.get rfl) rfl (tysOk.get rfl) rfl rfl rfl rfl rfl (by repeat (first | exact BuildP.nil | ((apply BuildP.one); (rfl); (rfl); (first | rfl | assumption); (repeat (first | exact SetL.z | apply SetL.s))))) rfl (fun b => ?_)))))) | (with_reducible first | apply Tr.next | apply Tr.seq | apply Tr.region | apply Tr.nil | apply Tr.skip | apply Tr.block) | (refine Tr.cond_bf rfl (by (with_reducible rfl)) ?_) | (refine Tr.cond_t rfl (by first | (with_reducible assumption) | omega) ?_))
    refine Tr.cells (cs' := [.int .i64 (a s r)]) (by repeat (first | exact Upd.here | apply Upd.there)) (by rw [h0]; rfl) ?_
    ((refine Tr.step rfl ?_))
    refine Exec.append (A := A7) (news := [.int .i64 (a s r)]) rfl rfl (tysOk.get rfl) rfl (tysOk.get rfl) rfl rfl rfl rfl (by repeat (first | exact Del.here | apply Del.there)) (Src.box (by repeat (first | exact Has.here | apply Has.there))) rfl (by intro u hu; simp at hu; subst hu; rfl) (by omega) (by omega) rfl (fun A8 c8 hc8 => ?_)
    rw [show intV ((List.range r).map (a s)) ++ [.int .i64 (a s r)] = intV ((List.range (r + 1)).map (a s)) by rw [rowOf_succ, intV_append]; rfl]
    repeat (first | ((with_reducible refine Tr.step rfl ?_); (first | (refine xmQ (z := ?_)) | (refine xaQ (z := ?_)) | (refine xdQ (z := ?_)))) | (with_reducible first | apply Tr.next | apply Tr.region | apply Tr.nil | apply Tr.in_normal))
    refine gvQ (r := box _ 3 [_]) (k := ?_)
    refine ftQ (r := many _) (k := ?_)
    refine ftQ (r := ownS 4 1 _ _ _ _) (k := ?_)
    refine Tr.many_in (rowC_get hx) ?_
    rw [set_same (rowC_get hx)]
    refine ftQ (r := ownS 60 1 _ _ _ _) (k := ?_)
    refine ftQ (r := ownS 45 1 _ _ _ _) (k := ?_)
    refine ftQ (r := ownS 3 1 A8 _ _ _) (k := ?_)
    refine Tr.again (r + 1, cs, left, op, A8, c8) ⟨by simp only; omega, hcl, hcap, hll, hol, hvl, hres.skip hin hrn hfd, hc8⟩ (by simp only; omega) hsQ
  have hrm := room_lend M2 B1 B2 B3 k1 k2 k3 cs left op hk1 hk2 hk3 hcap hvl (by omega) s r (by omega) (by omega) (hrok (by omega) (by omega))
  rw [hcl, hll, hol] at hrm
  repeat (first | ((with_reducible refine Tr.step rfl ?_); (first | (refine xmQ (z := ?_)) | (refine xaQ (z := ?_)) | ((with_reducible refine Knd.load ?_); ((refine Exec.stab rfl (Stab.loadO rfl (tysOk.get rfl) rfl (by repeat (first | exact Has.here | apply Has.there)) (by assumption)) rfl ?_))) | (refine xnQ (z := ?_)) | (refine xiQ (z := ?_)) | (refine xxQ (z := ?_)))) | (with_reducible first | apply Tr.next | apply Tr.seq | apply Tr.region | apply Tr.nil | apply Tr.skip | apply Tr.block) | (refine Tr.cond_bt rfl (by (with_reducible rfl)) ?_) | (refine Tr.cond_t rfl (by first | (with_reducible assumption) | omega) ?_))
  refine Tr.many_in (rowC_get hx) ?_
  rw [set_same (rowC_get hx)]
  refine ftQ (r := ownS 3 1 B2 _ _ _) (k := ?_)
  refine ftQ (r := ownS 3 1 B1 _ _ _) (k := ?_)
  refine ftQ (r := many _) (k := ?_)
  refine ftQ (r := ownS 60 1 _ _ _ _) (k := ?_)
  ((refine Tr.step rfl ?_))
  refine Exec.call (A := [ownS 60 1 B3 fits.length k3 (ptrC cs), many (cs.map rowC), ownS 3 1 B1 sup.length k1 (intV left), ownS 3 1 B2 need.length k2 (intV op)]) rfl hrm (List.Perm.refl _) rfl ?_
  rintro _ _ _ _ ⟨rfl, rfl, v, rfl, hRV⟩
  rw [← hol] at hRV
  obtain ⟨hva, hv0⟩ := hRV.amount hvl hmx hres (by omega) (by omega) hfd
  have g1 := hRV.l1
  have g2 := hRV.l2
  rw [getD_of hlv] at g1
  rw [getD_of hov] at g2
  have hnew : (cs.set s (xA, xc, row.set r false)).map (·.2.2) = (cs.map (·.2.2)).set s (row.set r false) := by rw [List.map_set]
  have hvl2 := hvl.after hrow hv0 hlv hov g1 g2 (r := r)
  have hres2 := hres.step hin hrn hfd
  rw [← hva, ← pbOf_after hvl (by omega) (by omega) hrow v lv ov hlv hov, ← hnew] at hres2
  rw [← hnew] at hvl2
  have hptr := ptrC_set hx (row.set r false) (by simp)
  simp only at hptr
  have hbl : (boV row).length = need.length := by simp; omega
  have hill : (intV left).length = sup.length := by simp [hll]
  have hiol : (intV op).length = need.length := by simp [hol]
  refine Tr.own_some B1 (by repeat (first | exact Has.here | apply Has.there)) (by omega) (fun hB1 => ?_)
  refine Tr.own_some B2 (by repeat (first | exact Has.here | apply Has.there)) (by omega) (fun hB2 => ?_)
  simp only [List.cons_append, List.nil_append]
  refine Tr.many_out (by repeat (first | exact Del.here | apply Del.there)) (rowC_get hx) ?_
  dsimp only
  repeat (first | ((with_reducible refine Tr.step rfl ?_); (first | (refine xmQ (z := ?_)) | (refine xaQ (z := ?_)) | ((with_reducible refine Knd.load ?_); ((refine Exec.stab rfl (Stab.loadO rfl (tysOk.get rfl) rfl (by repeat (first | exact Has.here | apply Has.there)) (by assumption)) rfl ?_))) | ((with_reducible refine Knd.binOp ?_); ((refine Exec.stab rfl (Stab.subi rfl rfl (by omega)) rfl ?_))) | ((with_reducible refine Knd.store ?_); ((refine Exec.storeO rfl rfl (tysOk.get rfl) rfl (by first | rfl | assumption) (by repeat (first | exact Upd.here | apply Upd.there)) (by omega) ?_))) | (refine xxQ (z := ?_)) | ((with_reducible refine Knd.buildSlice ?_); ((refine Exec.buildSlice (tysOk.get rfl) rfl (tysOk.get rfl) rfl rfl rfl rfl rfl (by repeat (first | exact BuildP.nil | ((apply BuildP.one); (rfl); (rfl); (first | rfl | assumption); (repeat (first | exact SetL.z | apply SetL.s))))) rfl (fun b => ?_)))))) | (with_reducible first | apply Tr.next | apply Tr.seq | apply Tr.region | apply Tr.nil))
  rw [boV_set, intV_set, intV_set, Int.toNat_natCast r, Int.toNat_natCast s]
  refine Tr.cells (cs' := [.int .i64 (a s r)]) (by repeat (first | exact Upd.here | apply Upd.there)) (by rw [← hva]; rfl) ?_
  ((refine Tr.step rfl ?_))
  refine Exec.append (A := A7) (news := [.int .i64 (a s r)]) rfl rfl (tysOk.get rfl) rfl (tysOk.get rfl) rfl rfl rfl rfl (by repeat (first | exact Del.here | apply Del.there)) (Src.box (by repeat (first | exact Has.here | apply Has.there))) rfl (by intro u hu; simp at hu; subst hu; rfl) (by omega) (by omega) rfl (fun A8 c8 hc8 => ?_)
  rw [show intV ((List.range r).map (a s)) ++ [.int .i64 (a s r)] = intV ((List.range (r + 1)).map (a s)) by rw [rowOf_succ, intV_append]; rfl]
  repeat (first | ((with_reducible refine Tr.step rfl ?_); (first | (refine xmQ (z := ?_)) | (refine xaQ (z := ?_)) | (refine xdQ (z := ?_)))) | (with_reducible first | apply Tr.next | apply Tr.region | apply Tr.nil | apply Tr.in_normal))
  refine gvQ (r := box _ 3 [_]) (k := ?_)
  refine ftQ (r := many _) (k := ?_)
  refine ftQ (r := ownS 4 1 _ _ _ _) (k := ?_)
  refine Tr.many_in (rowC_get hx) ?_
  rw [show (cs.map rowC).set s (ownS 4 1 xA row.length xc (boV (row.set r false))) = (cs.set s (xA, xc, row.set r false)).map rowC by rw [List.map_set]; simp [rowC], ← hptr]
  refine ftQ (r := ownS 3 1 B1 _ _ _) (k := ?_)
  refine ftQ (r := ownS 3 1 B2 _ _ _) (k := ?_)
  refine ftQ (r := many _) (k := ?_)
  refine ftQ (r := ownS 60 1 _ _ _ _) (k := ?_)
  refine ftQ (r := ownS 45 1 _ _ _ _) (k := ?_)
  refine ftQ (r := ownS 3 1 A8 _ _ _) (k := ?_)
  refine Tr.again (r + 1, cs.set s (xA, xc, row.set r false), left.set s (lv - v), op.set r (ov - v), A8, c8) ⟨by simp only; omega, by simpa using hcl, fun x hx' => ?_, by simpa using hll, by simpa using hol, hvl2, hres2, hc8⟩ (by simp only; omega) hsQ
  rcases List.mem_or_eq_of_mem_set hx' with hx' | rfl
  · exact hcap x hx'
  · have h9 := hcap _ (List.mem_of_getElem? hx)
    exact h9
end Go.Proofs.Ytgnipfjjkliibaa

/-
  Honour, plain: what the functions answer, computed.
  Conditions: none.
-/
namespace Go.Proofs.Ytgnipfjjkliibaa
open Go Bf
def feasC (fits : List (List Bool)) (sup need : List Int) : Bool := decide (∀ s, s ≤ 2 ^ need.length - 1 → (1 ≤ s → s &&& (2 ^ need.length - 1) = s → lackB fits sup need s ≤ 0))
theorem feasC_iff {fits : List (List Bool)} {sup need : List Int} (hv : Vld fits sup need) : Feas (pbOf fits sup need) ↔ feasC fits sup need = true := by
  rw [feas_poss hv, feasC, decide_eq_true_iff]
  exact ⟨fun h s h1 h2 h3 => h s h2 h1 h3, fun h s h1 h2 h3 => h s h2 h1 h3⟩
def accC (p : (Nat → Bool) → Bool) (ask : Nat → Bool) : Nat → Nat → Bool
  | 0 => fun _ => false
  | j + 1 => if (ask j && p (fun b => accC p ask j b || decide (b = j))) = true then fun b => accC p ask j b || decide (b = j) else accC p ask j
theorem acc_comp {P : (Nat → Bool) → Prop} {p : (Nat → Bool) → Bool} {ask : Nat → Bool} (h : ∀ S, P S ↔ p S = true) : ∀ j, acc P ask j = accC p ask j
  | 0 => rfl
  | j + 1 => by
    have ih := acc_comp (ask := ask) h j
    rw [accC]
    by_cases c : ask j = true ∧ P (fun b => acc P ask j b || decide (b = j))
    · rw [acc_yes c.1 c.2, ih]
      rw [ih] at c
      rw [if_pos (by rw [c.1, Bool.true_and]; exact (h _).1 c.2)]
    · rw [acc_no c, ih]
      rw [ih] at c
      rw [if_neg]
      intro hc
      obtain ⟨c1, c2⟩ := Bool.and_eq_true_iff.1 hc
      exact c ⟨c1, (h _).2 c2⟩
def failC (x : Fx) (s : St) (e : Nat) : List Nat := (List.range e).filter fun j => askF s j && !accC (fun S => feasC (tabL x.fits x.due s.dy) s.am (mskL s.nd S)) (askF s) (j + 1) j
theorem msk_vld {x : Fx} {s : St} (h : Fit x s) (S : Nat → Bool) : Vld (tabL x.fits x.due s.dy) s.am (mskL s.nd S) :=
  ⟨h.l64, by rw [mskL_length]; exact h.r64, by rw [tabL_length]; exact h.dyl, fun r hr => by rw [tabL_row hr, mskL_length]; exact h.dul, h.amr, mskL_rng h.ndr⟩
theorem failF_comp {x : Fx} {s : St} (h : Fit x s) (e : Nat) : failF x s e = failC x s e := by
  have hP : ∀ S, srvP x s S ↔ feasC (tabL x.fits x.due s.dy) s.am (mskL s.nd S) = true := fun S => feasC_iff (msk_vld h S)
  unfold failF failC failL
  rw [show (fun j => askF s j && !acc (srvP x s) (askF s) (j + 1) j) = fun j => askF s j && !accC (fun S => feasC (tabL x.fits x.due s.dy) s.am (mskL s.nd S)) (askF s) (j + 1) j from funext fun j => by rw [acc_comp hP]]
def markC (x : Fx) (s : St) (at_ : Nat) : St := { s with br := (List.range s.br.length).map fun j => if j ∈ failC x s s.nd.length then (at_ : Int) else s.br.getD j 0 }
theorem markF_comp {x : Fx} {s : St} (h : Fit x s) (at_ : Nat) : markF x s at_ = markC x s at_ := by
  unfold markF markC
  rw [failF_comp h]
def stepC (x : Fx) (s : St) (h : Hp) (at_ : Nat) : Option St :=
  if h.kind = 1 then
    (if (0 ≤ h.sup ∧ h.sup ≤ (s.am.length : Int) - 1) ∧ (1 ≤ h.amt ∧ h.amt ≤ s.am.getD h.sup.toNat 0) then some (markC x { s with am := s.am.set h.sup.toNat (s.am.getD h.sup.toNat 0 - h.amt) } at_) else none)
  else if h.kind = 2 then
    (if (0 ≤ h.sup ∧ h.sup ≤ (s.am.length : Int) - 1) ∧ (s.dy.getD h.sup.toNat 0 ≤ h.day ∧ h.day ≤ 1024) then some (markC x { s with dy := s.dy.set h.sup.toNat h.day } at_) else none)
  else if h.kind = 3 then
    (if ((0 ≤ h.sup ∧ h.sup ≤ (s.am.length : Int) - 1) ∧ (0 ≤ h.req ∧ h.req ≤ (s.nd.length : Int) - 1)) ∧ (s.br.getD h.req.toNat 0 < 0 ∧ ((x.fits.getD h.sup.toNat []).getD h.req.toNat false = true ∧ s.dy.getD h.sup.toNat 0 ≤ x.due.getD h.req.toNat 0) ∧ s.dy.getD h.sup.toNat 0 ≤ h.day ∧ h.day ≤ x.due.getD h.req.toNat 0) ∧ (1 ≤ h.amt ∧ h.amt ≤ min (s.am.getD h.sup.toNat 0) (s.nd.getD h.req.toNat 0)) ∧
        failC x { s with am := s.am.set h.sup.toNat (s.am.getD h.sup.toNat 0 - h.amt), nd := s.nd.set h.req.toNat (s.nd.getD h.req.toNat 0 - h.amt) } s.nd.length = [] then
      some { s with am := s.am.set h.sup.toNat (s.am.getD h.sup.toNat 0 - h.amt), nd := s.nd.set h.req.toNat (s.nd.getD h.req.toNat 0 - h.amt) } else none)
  else none
theorem dy_rng {x : Fx} {s : St} (hf : Fit x s) (i : Nat) : 0 ≤ s.dy.getD i 0 := by
  by_cases h : i < s.dy.length
  · exact (getD_all hf.dyr h).1
  · rw [List.getD_eq_getElem?_getD, List.getElem?_eq_none (by omega)]; exact Int.le_refl _
theorem stepF_comp {x : Fx} {s : St} (hf : Fit x s) (h : Hp) (at_ : Nat) : stepF x s h at_ = stepC x s h at_ := by
  unfold stepF stepC
  have hr := getD_rng hf.amr h.sup.toNat
  have hr2 := getD_rng hf.ndr h.req.toNat
  have hr3 := dy_rng hf h.sup.toNat
  by_cases k1 : h.kind = 1
  · rw [if_pos k1, if_pos k1]
    by_cases c : (0 ≤ h.sup ∧ h.sup ≤ (s.am.length : Int) - 1) ∧ (1 ≤ h.amt ∧ h.amt ≤ s.am.getD h.sup.toNat 0)
    · rw [if_pos c, if_pos c, markF_comp (hf.setAm (by omega) _)]
    · rw [if_neg c, if_neg c]
  rw [if_neg k1, if_neg k1]
  by_cases k2 : h.kind = 2
  · rw [if_pos k2, if_pos k2]
    by_cases c : (0 ≤ h.sup ∧ h.sup ≤ (s.am.length : Int) - 1) ∧ (s.dy.getD h.sup.toNat 0 ≤ h.day ∧ h.day ≤ 1024)
    · rw [if_pos c, if_pos c, markF_comp (hf.setDy (by omega) _)]
    · rw [if_neg c, if_neg c]
  rw [if_neg k2, if_neg k2]
  by_cases k3 : h.kind = 3
  · rw [if_pos k3, if_pos k3]
    by_cases c1 : (1 ≤ h.amt ∧ h.amt ≤ min (s.am.getD h.sup.toNat 0) (s.nd.getD h.req.toNat 0))
    · have hf2 : Fit x { s with am := s.am.set h.sup.toNat (s.am.getD h.sup.toNat 0 - h.amt), nd := s.nd.set h.req.toNat (s.nd.getD h.req.toNat 0 - h.amt) } := (hf.setAm (v := s.am.getD h.sup.toNat 0 - h.amt) (by omega) h.sup.toNat).setNd (v := s.nd.getD h.req.toNat 0 - h.amt) (by show 0 ≤ s.nd.getD h.req.toNat 0 - h.amt ∧ s.nd.getD h.req.toNat 0 - h.amt ≤ 1048576; omega) h.req.toNat
      rw [failF_comp hf2]
    · rw [if_neg (fun c => c1 c.2.2.1), if_neg (fun c => c1 c.2.2.1)]
  · rw [if_neg k3, if_neg k3]
def stepsC (x : Fx) : St → Nat → List Hp → Option St
  | s, _, [] => some s
  | s, at_, h :: l => (stepC x s h at_).bind fun s' => stepsC x s' (at_ + 1) l
theorem stepsF_comp {x : Fx} : ∀ (l : List Hp) (s : St) (at_ : Nat), Fit x s → stepsF x s at_ l = stepsC x s at_ l
  | [], _, _, _ => rfl
  | h :: l, s, at_, hf => by
    rw [stepsF, stepsC, ← stepF_comp hf]
    cases hs : stepF x s h at_ with
    | none => rfl
    | some t => exact stepsF_comp l t (at_ + 1) ((stepF_some.1 hs).keep hf).1
instance (b : Bk) : Decidable (formedB b) := by unfold formedB; infer_instance
def runC (b : Bk) (l : List Hp) : Option St := if formedB b ∧ failC (fxB b) (beginF b) b.reqs.length = [] then stepsC (fxB b) (beginF b) 0 l else none
theorem runF_comp (b : Bk) (l : List Hp) : runF b l = runC b l := by
  unfold runC
  by_cases hf : formedB b
  · have hfit := begin_fit hf
    by_cases hv : failC (fxB b) (beginF b) b.reqs.length = []
    · rw [if_pos ⟨hf, hv⟩, run_yes ⟨hf, by rw [failF_comp hfit]; exact hv⟩, stepsF_comp _ _ _ hfit]
    · rw [if_neg (fun h => hv h.2), run_no (fun h => hv (by rw [← failF_comp hfit]; exact h.2))]
  · rw [if_neg (fun h => hf h.1), run_no (fun h => hf h.1)]
def becLC (b : Bk) (l : List Hp) (br : List Int) (j q : Nat) : Nat → List Nat → List Nat
  | 0, left => left
  | i + 1, left => becLC b l br j q i (if q ∈ failC (fxB b) (withF b l br j (left.eraseIdx i)) (q + 1) then left.eraseIdx i else left)
theorem becL_comp {b : Bk} {l : List Hp} {s : St} (h : runF b l = some s) {j q : Nat} (hj : j < l.length) : ∀ (i : Nat) (left : List Nat), left.Sublist (List.range (j + 1)) → (∀ t ∈ left, (l.getD t zH).kind ≠ 3) → becL b l s.br j q i left = becLC b l s.br j q i left
  | 0, _, _, _ => rfl
  | i + 1, left, hs, hn => by
    have hs2 := (List.eraseIdx_sublist left i).trans hs
    have hn2 : ∀ t ∈ left.eraseIdx i, (l.getD t zH).kind ≠ 3 := fun t ht => hn t ((List.eraseIdx_sublist left i).subset ht)
    rw [becL, becLC, failF_comp (with_fit h hj hs2 hn2)]
    split
    · exact becL_comp h hj i _ hs2 hn2
    · exact becL_comp h hj i _ hs hn
def becC (b : Bk) (l : List Hp) (br : List Int) (q : Nat) : List Nat := becLC b l br (br.getD q 0).toNat q (notShip l ((br.getD q 0).toNat + 1)).length (notShip l ((br.getD q 0).toNat + 1))
theorem becF_comp {b : Bk} {l : List Hp} {s : St} (h : runF b l = some s) {q : Nat} (hq : q < b.reqs.length) (hb : 0 ≤ s.br.getD q 0) : becF b l s.br q = becC b l s.br q := by
  have hj : (s.br.getD q 0).toNat < l.length := by
    rcases run_brk h hq with e | ⟨t, e1, e2, -⟩
    · omega
    · omega
  exact becL_comp h hj _ _ (notShip_sub _ _) (fun t ht => (notShip_mem.1 ht).2)
def brkC (k : Bk) (l : List Hp) (s : St) : List (Nat × List Nat) := ((List.range s.br.length).filter fun q => decide (0 ≤ s.br.getD q 0)).map fun q => (q, becC k l s.br q)
theorem brkF_comp {k : Bk} {l : List Hp} {s : St} (h : runF k l = some s) : brkF k l s = brkC k l s := by
  unfold brkF brkC brkN
  apply List.map_congr_left
  intro q hq
  obtain ⟨h1, h2⟩ := List.mem_filter.1 hq
  rw [becF_comp h (by have := (run_len h).2.2.2; have := List.mem_range.1 h1; omega) (of_decide_eq_true h2)]
def sampB : Bk := ⟨0, [⟨0, 0, 0, 0, 0, 4⟩, ⟨1, 0, 0, 2, 0, 3⟩], [⟨0, 0, 0, 5, 0, 4⟩, ⟨1, 0, 0, 3, 0, 3⟩], [[true, true], [true, false]], 0⟩
theorem samp0 : runF sampB [] = some ⟨[4, 3], [0, 2], [4, 3], [-1, -1]⟩ := by rw [runF_comp]; kernel_rfl
theorem samp1 : runF zB [] = some ⟨[], [], [], []⟩ := by rw [runF_comp]; kernel_rfl
theorem samp2 : runF zB [⟨1, 0, 0, 0, 1⟩] = none := by rw [runF_comp]; kernel_rfl
theorem samp3 : runF sampB [⟨1, 1, 0, 0, 1⟩] = some ⟨[4, 2], [0, 2], [4, 3], [-1, 0]⟩ := by rw [runF_comp]; kernel_rfl
theorem samp4 : runF sampB [⟨3, 0, 0, 4, 2⟩] = none := by rw [runF_comp]; kernel_rfl
theorem samp5 : runF sampB [⟨3, 0, 0, 4, 1⟩] = some ⟨[3, 3], [0, 2], [3, 3], [-1, -1]⟩ := by rw [runF_comp]; kernel_rfl
theorem samp6 : runF sampB [⟨3, 0, 0, 4, 1⟩, ⟨2, 1, 0, 6, 0⟩] = some ⟨[3, 3], [0, 6], [3, 3], [-1, 1]⟩ := by rw [runF_comp]; kernel_rfl
end Go.Proofs.Ytgnipfjjkliibaa

/-
  Honour, plain: what the functions answer of the sample.
  Conditions: none.
-/
namespace Go.Proofs.Ytgnipfjjkliibaa
open Go Bf
theorem sv1 : doF zB [] = (zB, 0) := by rw [doF, samp1]; rfl
theorem sv2 : brokenF sampB [] = ([], 0) := by rw [brokenF, samp0]; show (brkF sampB [] _, (0 : Int)) = _; rw [brkF_comp samp0]; kernel_rfl
theorem sv3 : doF zB [⟨1, 0, 0, 0, 1⟩] = (zB, 330) := by rw [doF, samp2]
theorem sv4 : shipL sampB [] 1024 = ([], 330) := by rw [shipL, samp0]; exact if_neg (by decide)
theorem sv5 : doF sampB [⟨1, 1, 0, 0, 1⟩] = (⟨0, [⟨0, 0, 0, 0, 0, 4⟩, ⟨1, 0, 0, 2, 0, 2⟩], [⟨0, 0, 0, 5, 0, 4⟩, ⟨1, 0, 0, 3, 0, 0⟩], [[true, true], [true, false]], 0⟩, 0) := by rw [doF, samp3]; kernel_rfl
theorem sv6 : brokenF sampB [⟨1, 1, 0, 0, 1⟩] = ([(1, [0])], 0) := by rw [brokenF, samp3]; show (brkF sampB _ _, (0 : Int)) = _; rw [brkF_comp samp3]; kernel_rfl
theorem sv8 : doF sampB [⟨3, 0, 0, 4, 2⟩] = (zB, 330) := by rw [doF, samp4]
theorem sv9 : doF sampB [⟨3, 0, 0, 4, 1⟩] = (⟨0, [⟨0, 0, 0, 0, 0, 3⟩, ⟨1, 0, 0, 2, 0, 3⟩], [⟨0, 0, 0, 5, 0, 3⟩, ⟨1, 0, 0, 3, 0, 3⟩], [[true, true], [true, false]], 0⟩, 0) := by rw [doF, samp5]; kernel_rfl
theorem sv10 : brokenF sampB [⟨3, 0, 0, 4, 1⟩, ⟨2, 1, 0, 6, 0⟩] = ([(1, [1])], 0) := by rw [brokenF, samp6]; show (brkF sampB _ _, (0 : Int)) = _; rw [brkF_comp samp6]; kernel_rfl
theorem samp_al {a : Nat → Nat → Int} (h : LexMax (pbOf [[true, true], [true, false]] [4, 3] [4, 3]) a) : a 0 1 = 3 ∧ a 1 1 = 0 := by
  have h7 : a 1 1 = 0 := by
    by_cases e : a 1 1 = 0
    · exact e
    · have := h.1.ok 1 (by decide) 1 (by decide) e
      cases this
  have h6 : (0 : Int) + sumN 2 (fun k => a k 1) = 3 := h.1.col 1 (by decide)
  simp only [sumN] at h6
  omega
theorem sv7 (hex : ShipEx sampB [] 3) : shipL sampB [] 3 = ([⟨3, 0, 1, 3, 3⟩], 0) := by
  obtain ⟨a, ha⟩ := hex _ samp0 (by decide)
  rw [shipL, samp0]
  show (if (0 : Int) ≤ 3 ∧ (3 : Int) ≤ 1023 then (shipsOf (resF sampB ⟨[4, 3], [0, 2], [4, 3], [-1, -1]⟩) 3, (0 : Int)) else ([], 330)) = _
  rw [if_pos (by decide), shipsOf, alF_eq ha]
  obtain ⟨h1, h2⟩ := samp_al (a := a) (by
    have e : pbOf (resF sampB ⟨[4, 3], [0, 2], [4, 3], [-1, -1]⟩).fits (beginF (resF sampB ⟨[4, 3], [0, 2], [4, 3], [-1, -1]⟩)).am (beginF (resF sampB ⟨[4, 3], [0, 2], [4, 3], [-1, -1]⟩)).nd = pbOf [[true, true], [true, false]] [4, 3] [4, 3] := by kernel_rfl
    rw [e] at ha
    exact ha)
  have e3 : allocOf a (beginF (resF sampB ⟨[4, 3], [0, 2], [4, 3], [-1, -1]⟩)).nd.length (beginF (resF sampB ⟨[4, 3], [0, 2], [4, 3], [-1, -1]⟩)).am.length = [[a 0 0, a 0 1], [a 1 0, a 1 1]] := rfl
  have e4 : (resF sampB ⟨[4, 3], [0, 2], [4, 3], [-1, -1]⟩).reqs = [⟨0, 0, 0, 5, 0, 4⟩, ⟨1, 0, 0, 3, 0, 3⟩] := by kernel_rfl
  have e5 : (resF sampB ⟨[4, 3], [0, 2], [4, 3], [-1, -1]⟩).sups.length = 2 := rfl
  rw [e3, e4, e5, h1, h2]
  rfl
end Go.Proofs.Ytgnipfjjkliibaa

/-
  Honour: the sample.
  Conditions: none.
-/
namespace Go.Proofs.Ytgnipfjjkliibaa
open Go Bf
attribute [local irreducible] Tr Exec Stab HasTy Go.Addr.add IntKind.wrap
theorem elB (M : Mem) : ∀ l : List Bool, Elems 1 RBo M (boV l) l
  | [] => Elems.nil
  | x :: l => Elems.append (cs := [.bool x]) (xs := [x]) (Elems.one rfl rfl) (elB M l)
theorem ofB {M : Mem} {b t : Nat} {l : List Bool} (h : (box b t (boV l)).ok M) (hl : l.length ≤ 100) : Bools M (.slice (some ⟨b, 0, none⟩) l.length l.length) l := SlOf.ofBox h (by intro u hu; obtain ⟨x, _, rfl⟩ := List.mem_map.1 hu; rfl) (by omega) (elB M l)
theorem ofF2 {M : Mem} {b t : Nat} {A B : Option Addr} {c d : Nat} {x y : List Bool} (h : (box b t [.slice A x.length c, .slice B y.length d]).ok M) (hx : Bools M (.slice A x.length c) x) (hy : Bools M (.slice B y.length d) y) : Fits2 M (.slice (some ⟨b, 0, none⟩) [x, y].length [x, y].length) [x, y] :=
  SlOf.ofBox h (by intro u hu; simp only [List.mem_cons, List.not_mem_nil, or_false] at hu; rcases hu with rfl | rfl <;> rfl) (by show 2 ≤ _; omega) (Elems.append (cs := [.slice A x.length c]) (xs := [x]) (Elems.one rfl ⟨A, c, rfl, hx⟩) (Elems.one rfl ⟨B, d, rfl, hy⟩))
theorem ofS {M : Mem} {b t : Nat} {l : List Sp} (h : (box b t (l.flatMap spV)).ok M) (hl : l.length ≤ 100) : SlOf 6 RSp M (.slice (some ⟨b, 0, none⟩) l.length l.length) l := SlOf.ofBox h (flatMap_one spV_one _) (by omega) (Elems.flat (R := RSp) spV_len (fun _ => rfl) l)
theorem ofR {M : Mem} {b t : Nat} {l : List Rq} (h : (box b t (l.flatMap rqV)).ok M) (hl : l.length ≤ 100) : SlOf 6 RRq M (.slice (some ⟨b, 0, none⟩) l.length l.length) l := SlOf.ofBox h (flatMap_one rqV_one _) (by omega) (Elems.flat (R := RRq) rqV_len (fun _ => rfl) l)
theorem hpC_one (h : Hp) : ∀ u ∈ hpC h, u.oneCell' = true := by
  intro u hu
  simp only [hpC, List.mem_cons, List.not_mem_nil, or_false] at hu
  rcases hu with rfl | rfl | rfl | rfl | rfl <;> rfl
theorem ofH {M : Mem} {b t : Nat} {l : List Hp} (h : (box b t (l.flatMap hpC)).ok M) (hl : l.length ≤ 100) : SlOf 5 RHp M (.slice (some ⟨b, 0, none⟩) l.length l.length) l := SlOf.ofBox h (flatMap_one hpC_one _) (by omega) (Elems.flat (R := RHp) hpC_len (fun _ => rfl) l)
theorem ofBr1 {M : Mem} {b t : Nat} {A : Option Addr} {c : Nat} {x : Nat × List Nat} (h : (box b t [.int .i64 (x.1 : Int), .slice A x.2.length c]).ok M) (hx : Ints M (.slice A x.2.length c) (nats_ x.2)) : SlOf 2 RBr M (.slice (some ⟨b, 0, none⟩) [x].length [x].length) [x] :=
  SlOf.ofBox h (by intro u hu; simp only [List.mem_cons, List.not_mem_nil, or_false] at hu; rcases hu with rfl | rfl <;> rfl) (by show 1 ≤ _; omega) (Elems.one rfl ⟨A, c, rfl, hx⟩)
set_option maxHeartbeats 4000000 in
theorem sample_fn (M : Mem) : Fn0 Try.prog 23 [] M (fun r M' => RBk M' r sampB) := by
  refine Fn.intro Try.func23 rfl rfl Try.ntmps23 rfl fun E F => ?_
  (repeat (first | ((with_reducible refine Tr.step rfl ?_); (first | (refine xWQ (z := ?_)) | ((with_reducible refine Knd.alloc ?_); (refine Exec.alloc (tysOk.get rfl) rfl rfl (fun b => ?_))) | ((with_reducible refine Knd.build ?_); (refine Exec.stab rfl (Stab.build tysOk rfl rfl rfl rfl (by repeat (first | exact BuildP.nil | ((apply BuildP.one); (rfl); (rfl); (first | rfl | assumption); (repeat (first | exact SetL.z | apply SetL.s))) | ((apply BuildP.many); (rfl); (rfl); (rfl); (rfl); (repeat (first | exact PutL.nil | ((apply PutL.cons); (repeat (first | exact SetL.z | apply SetL.s))))))))) rfl ?_)) | ((with_reducible refine Knd.buildSlice ?_); (refine Exec.buildSlice (tysOk.get rfl) rfl (tysOk.get rfl) rfl rfl rfl rfl rfl (by repeat (first | exact BuildP.nil | ((apply BuildP.one); (rfl); (rfl); (first | rfl | assumption); (repeat (first | exact SetL.z | apply SetL.s))) | ((apply BuildP.many); (rfl); (rfl); (rfl); (rfl); (repeat (first | exact PutL.nil | ((apply PutL.cons); (repeat (first | exact SetL.z | apply SetL.s)))))))) rfl (fun b => ?_))))) | (with_reducible first | apply Tr.next | apply Tr.seq | apply Tr.region | apply Tr.nil | apply Tr.ret)))
  rename_i b0 b1 b2 b3 b4
  generalize b = b5
  refine pbQ (r := box b3 _ _) (k := fun M1 hm1 ok1 => ?_)
  have i1 := ofB (l := [true, true]) ok1 (by decide)
  refine pbQ (r := box b4 _ _) (k := fun M2 hm2 ok2 => ?_)
  have i2 := ofB (l := [true, false]) ok2 (by decide)
  refine pbQ (r := box b5 _ _) (k := fun M3 hm3 ok3 => ?_)
  have i3 := ofF2 (x := [true, true]) (y := [true, false]) ok3 (i1.mono RBo.mono (hm2.trans hm3)) (i2.mono RBo.mono hm3)
  refine pbQ (r := box b1 _ _) (k := fun M4 hm4 ok4 => ?_)
  have i4 := ofS (l := sampB.sups) ok4 (by decide)
  refine pbQ (r := box b2 _ _) (k := fun M5 hm5 ok5 => ?_)
  have i5 := ofR (l := sampB.reqs) ok5 (by decide)
  have hlast := hm1.trans (hm2.trans (hm3.trans (hm4.trans hm5)))
  (skip)
  (refine Tr.done (by first | exact .inl rfl | exact .inr rfl) rfl (by repeat (first | exact RVs.nil | (apply RVs.cons; (exact RV.cellW (by rfl) (tysOk.get (by rfl)) (by rfl) (by repeat (first | exact Has.here | apply Has.there)) (by first | rfl | assumption))))) (by first | exact Mem.le.refl _ | assumption) (by exact ⟨[_], rfl⟩) ⟨rfl, ?_⟩)
  exact ⟨_, _, _, _, _, _, _, _, rfl, i4.mono RSp.mono hm5, i5, i3.mono RRowB.mono (hm4.trans hm5)⟩
end Go.Proofs.Ytgnipfjjkliibaa

/-
  Honour: the contract of sane.
  Conditions: none.
-/
namespace Go.Proofs.Ytgnipfjjkliibaa
open Go Bf
attribute [local irreducible] Tr Exec Stab HasTy Go.Addr.add IntKind.wrap
set_option maxHeartbeats 16000000 in
set_option maxRecDepth 20000 in
theorem sane33_fn (M0 : Mem) : Fn0 Try.prog 9 [] M0 (fun r _ => r = .bool true) := by
  refine Fn.intro Try.func9 rfl rfl Try.ntmps9 rfl fun E F => ?_
  refine Tr.seq ?_
  refine Tr.cut (α := Unit) (fun _ => ⟨205, [], [], M0, F⟩) (fun _ => True) ?_ (fun _ _ => ?_)
  · (repeat (first | ((with_reducible refine Tr.step rfl ?_); (with_reducible refine Knd.assign ?_); (refine xaQ (z := ?_))) | (with_reducible first | apply Tr.region | apply Tr.nil)))
    refine Tr.land () trivial hsQ
  first | (refine Tr.seq ?_) | (refine Tr.next ?_; refine Tr.seq ?_)
  refine Tr.cut (α := Mem × Nat × Value × Value × Value × Value × Value) (fun y => ⟨205, [(1, .pointer (some ⟨y.2.1, 0, none⟩))], [], y.1, box y.2.1 27 [y.2.2.1, y.2.2.2.1, y.2.2.2.2.1, y.2.2.2.2.2.1, y.2.2.2.2.2.2] :: F⟩) (fun y => Mem.le M0 y.1 ∧ RBk y.1 (.agg #[y.2.2.1, y.2.2.2.1, y.2.2.2.2.1, y.2.2.2.2.2.1, y.2.2.2.2.2.2]) sampB) ?_ (fun y hy => ?_)
  · skip
    (repeat ((with_reducible refine Tr.region ?_)))
    have hcall := sample_fn M0
    try dsimp only [List.length_cons, List.length_nil] at hcall
    ((refine Tr.step rfl ?_)); refine Exec.call0 rfl (hcall) rfl ?_
    clear hcall
    rintro _ N1 hm1 hB
    obtain ⟨u1, u2, u3, u4, u5, rfl, o1, o2, o3, o4, o5⟩ := hB.open5
    (repeat (first | ((with_reducible refine Tr.step rfl ?_); (first | (refine xWQ (z := ?_)) | ((with_reducible refine Knd.alloc ?_); (refine Exec.alloc (tysOk.get rfl) rfl rfl (fun b => ?_))))) | (with_reducible refine Tr.nil ?_)))
    refine Tr.land (N1, _, u1, u2, u3, u4, u5) ⟨hm1, hB⟩ hsQ
  obtain ⟨M1, b1, v1, v2, v3, v4, v5⟩ := y
  obtain ⟨hg1, hS⟩ := hy
  dsimp only at hg1 hS ⊢
  first | (refine Tr.seq ?_) | (refine Tr.next ?_; refine Tr.seq ?_)
  refine Tr.cut (α := Mem × Nat × Value × Value × Value × Value × Value) (fun y => ⟨205, [(1, .pointer (some ⟨b1, 0, none⟩)), (2, .pointer (some ⟨y.2.1, 0, none⟩)), (3, .int .i64 0)], [], y.1, box y.2.1 27 [y.2.2.1, y.2.2.2.1, y.2.2.2.2.1, y.2.2.2.2.2.1, y.2.2.2.2.2.2] :: box b1 27 [v1, v2, v3, v4, v5] :: F⟩) (fun y => Mem.le M1 y.1 ∧ RBk y.1 (.agg #[y.2.2.1, y.2.2.2.1, y.2.2.2.2.1, y.2.2.2.2.2.1, y.2.2.2.2.2.2]) zB) ?_ (fun y hy => ?_)
  · skip
    (repeat (first | ((with_reducible refine Tr.step rfl ?_); (with_reducible refine Knd.build ?_); (refine Exec.stab rfl (Stab.build tysOk rfl rfl rfl rfl (by repeat (exact BuildP.nil))) rfl ?_)) | (with_reducible refine Tr.region ?_)))
    have hcall := do_fn M1 _ zB (RBk.zero _) none 0 ([] : List Hp) (SlOf.nil _ _ _)
    try dsimp only [List.length_cons, List.length_nil] at hcall
    ((refine Tr.step rfl ?_)); refine Exec.call0 rfl (hcall) rfl ?_
    clear hcall
    rintro _ N1 hm1 ⟨w, rfl, hB⟩
    rw [sv1] at hB ⊢
    dsimp only at hB ⊢
    obtain ⟨u1, u2, u3, u4, u5, rfl, o1, o2, o3, o4, o5⟩ := hB.open5
    (repeat (first | ((with_reducible refine Tr.step rfl ?_); (first | (refine xmQ (z := ?_)) | (refine xaQ (z := ?_)) | (refine xWQ (z := ?_)) | ((with_reducible refine Knd.alloc ?_); (refine Exec.alloc (tysOk.get rfl) rfl rfl (fun b => ?_))) | ((with_reducible refine Knd.extract ?_); (refine Exec.stab rfl (Stab.extract rfl rfl) rfl ?_)))) | (with_reducible refine Tr.nil ?_)))
    refine Tr.land (N1, _, u1, u2, u3, u4, u5) ⟨hm1, hB⟩ hsQ
  obtain ⟨M2, b2, n1, n2, n3, n4, n5⟩ := y
  obtain ⟨hg2, hN⟩ := hy
  dsimp only at hg2 hN ⊢
  replace hS := hS.mono hg2
  first | (refine Tr.seq ?_) | (refine Tr.next ?_; refine Tr.seq ?_)
  refine Tr.cut (α := Mem × Option Addr × Nat) (fun y => ⟨205, [(1, .pointer (some ⟨b1, 0, none⟩)), (2, .pointer (some ⟨b2, 0, none⟩)), (3, .int .i64 0), (4, .slice y.2.1 0 y.2.2), (5, .int .i64 0)], [], y.1, box b2 27 [n1, n2, n3, n4, n5] :: box b1 27 [v1, v2, v3, v4, v5] :: F⟩) (fun y => Mem.le M2 y.1) ?_ (fun y hy => ?_)
  · skip
    (repeat (first | ((with_reducible refine Tr.step rfl ?_); (with_reducible refine Knd.load ?_); (refine xwQ (z := ?_))) | (with_reducible refine Tr.region ?_)))
    have hcall := broken_fn M2 _ sampB hS none 0 ([] : List Hp) (SlOf.nil _ _ _) (by decide)
    try dsimp only [List.length_cons, List.length_nil] at hcall
    ((refine Tr.step rfl ?_)); refine Exec.call0 rfl (hcall) rfl ?_
    clear hcall
    rintro _ N1 hm1 ⟨A9, c9, rfl, hB⟩
    rw [sv2] at hB ⊢
    dsimp only at hB ⊢
    (repeat (first | ((with_reducible refine Tr.step rfl ?_); (first | (refine xmQ (z := ?_)) | (refine xaQ (z := ?_)) | ((with_reducible refine Knd.extract ?_); (refine Exec.stab rfl (Stab.extract rfl rfl) rfl ?_)))) | (with_reducible refine Tr.nil ?_)))
    refine Tr.land (N1, A9, c9) hm1 hsQ
  obtain ⟨M3, A3, c3⟩ := y
  have hg3 := hy
  dsimp only at hg3 ⊢
  replace hS := hS.mono hg3
  replace hN := hN.mono hg3
  first | (refine Tr.seq ?_) | (refine Tr.next ?_; refine Tr.seq ?_)
  refine Tr.cut (α := Mem) (fun y => ⟨205, [(1, .pointer (some ⟨b1, 0, none⟩)), (2, .pointer (some ⟨b2, 0, none⟩)), (3, .int .i64 0), (4, .slice A3 0 c3), (5, .int .i64 0), (7, .int .i64 330)], [], y, box b2 27 [n1, n2, n3, n4, n5] :: box b1 27 [v1, v2, v3, v4, v5] :: F⟩) (fun y => Mem.le M3 y) ?_ (fun y hy => ?_)
  · skip
    (repeat (first | ((with_reducible refine Tr.step rfl ?_); (first | ((with_reducible refine Knd.build ?_); (refine Exec.stab rfl (Stab.build tysOk rfl rfl rfl rfl (by repeat (first | exact BuildP.nil | ((apply BuildP.one); (rfl); (rfl); (first | rfl | assumption); (repeat (first | exact SetL.z | apply SetL.s)))))) rfl ?_)) | ((with_reducible refine Knd.buildSlice ?_); (refine Exec.buildSlice (tysOk.get rfl) rfl (tysOk.get rfl) rfl rfl rfl rfl rfl (by repeat (first | exact BuildP.nil | ((apply BuildP.many); (rfl); (rfl); (rfl); (rfl); (repeat (first | exact PutL.nil | ((apply PutL.cons); (repeat (first | exact SetL.z | apply SetL.s)))))))) rfl (fun b => ?_))))) | (with_reducible refine Tr.region ?_)))
    refine pbQ (r := box _ 44 _) (k := fun N1 hm1 ok1 => ?_)
    have iH := ofH (l := [⟨1, 0, 0, 0, 1⟩]) ok1 (by decide)
    clear ok1
    have hcall := do_fn N1 _ zB (RBk.zero _) _ _ _ iH
    try dsimp only [List.length_cons, List.length_nil] at hcall
    ((refine Tr.step rfl ?_)); refine Exec.call0 rfl (hcall) rfl ?_
    clear hcall
    rintro _ N2 hm2 ⟨w, rfl, hB⟩
    rw [sv3] at hB ⊢
    dsimp only at hB ⊢
    obtain ⟨u1, u2, u3, u4, u5, rfl, o1, o2, o3, o4, o5⟩ := hB.open5
    (repeat (first | ((with_reducible refine Tr.step rfl ?_); (first | (refine xmQ (z := ?_)) | (refine xaQ (z := ?_)) | (refine xWQ (z := ?_)) | ((with_reducible refine Knd.alloc ?_); (refine Exec.alloc (tysOk.get rfl) rfl rfl (fun b => ?_))) | ((with_reducible refine Knd.extract ?_); (refine Exec.stab rfl (Stab.extract rfl rfl) rfl ?_)))) | (with_reducible refine Tr.nil ?_)))
    refine Tr.land N2 (hm1.trans hm2) hsQ
  generalize y = M4 at *
  have hg4 := hy
  replace hS := hS.mono hg4
  replace hN := hN.mono hg4
  first | (refine Tr.seq ?_) | (refine Tr.next ?_; refine Tr.seq ?_)
  refine Tr.cut (α := Mem) (fun y => ⟨205, [(1, .pointer (some ⟨b1, 0, none⟩)), (2, .pointer (some ⟨b2, 0, none⟩)), (3, .int .i64 0), (4, .slice A3 0 c3), (5, .int .i64 0), (7, .int .i64 330), (9, .int .i64 330)], [], y, box b2 27 [n1, n2, n3, n4, n5] :: box b1 27 [v1, v2, v3, v4, v5] :: F⟩) (fun y => Mem.le M4 y) ?_ (fun y hy => ?_)
  · skip
    (repeat (first | ((with_reducible refine Tr.step rfl ?_); (with_reducible refine Knd.load ?_); (refine xwQ (z := ?_))) | (with_reducible refine Tr.region ?_)))
    have hcall := ship0_fn M4 _ sampB hS none 0 ([] : List Hp) (SlOf.nil _ _ _) 1024
    try dsimp only [List.length_cons, List.length_nil] at hcall
    ((refine Tr.step rfl ?_)); refine Exec.call0 rfl (hcall) rfl ?_
    clear hcall
    rintro _ N1 hm1 ⟨A9, c9, rfl, hB, -⟩
    rw [sv4] at hB ⊢
    dsimp only at hB ⊢
    (repeat (first | ((with_reducible refine Tr.step rfl ?_); (first | (refine xmQ (z := ?_)) | (refine xaQ (z := ?_)) | ((with_reducible refine Knd.extract ?_); (refine Exec.stab rfl (Stab.extract rfl rfl) rfl ?_)))) | (with_reducible refine Tr.nil ?_)))
    refine Tr.land N1 hm1 hsQ
  generalize y = M5 at *
  have hg5 := hy
  replace hS := hS.mono hg5
  replace hN := hN.mono hg5
  first | (refine Tr.seq ?_) | (refine Tr.next ?_; refine Tr.seq ?_)
  refine Tr.cut (α := Mem × Nat) (fun y => ⟨205, [(1, .pointer (some ⟨b1, 0, none⟩)), (2, .pointer (some ⟨b2, 0, none⟩)), (3, .int .i64 0), (4, .slice A3 0 c3), (5, .int .i64 0), (7, .int .i64 330), (9, .int .i64 330), (10, .slice (some ⟨y.2, 0, none⟩) 1 1)], [], y.1, box b2 27 [n1, n2, n3, n4, n5] :: box b1 27 [v1, v2, v3, v4, v5] :: F⟩) (fun y => Mem.le M5 y.1 ∧ SlOf 5 RHp y.1 (.slice (some ⟨y.2, 0, none⟩) 1 1) ([⟨1, 1, 0, 0, 1⟩] : List Hp)) ?_ (fun y hy => ?_)
  · skip
    (repeat (first | ((with_reducible refine Tr.step rfl ?_); (first | (refine xaQ (z := ?_)) | ((with_reducible refine Knd.build ?_); (refine Exec.stab rfl (Stab.build tysOk rfl rfl rfl rfl (by repeat (first | exact BuildP.nil | ((apply BuildP.one); (rfl); (rfl); (first | rfl | assumption); (repeat (first | exact SetL.z | apply SetL.s)))))) rfl ?_)) | ((with_reducible refine Knd.buildSlice ?_); (refine Exec.buildSlice (tysOk.get rfl) rfl (tysOk.get rfl) rfl rfl rfl rfl rfl (by repeat (first | exact BuildP.nil | ((apply BuildP.many); (rfl); (rfl); (rfl); (rfl); (repeat (first | exact PutL.nil | ((apply PutL.cons); (repeat (first | exact SetL.z | apply SetL.s)))))))) rfl (fun b => ?_))))) | (with_reducible first | apply Tr.region | apply Tr.nil)))
    refine pbQ (r := box _ 44 _) (k := fun N1 hm1 ok1 => ?_)
    have iH := ofH (l := [⟨1, 1, 0, 0, 1⟩]) ok1 (by decide)
    clear ok1
    (skip)
    refine Tr.land (N1, _) ⟨hm1, iH⟩ hsQ
  obtain ⟨M6, b6⟩ := y
  obtain ⟨hg6, hL⟩ := hy
  dsimp only at hg6 hL ⊢
  replace hS := hS.mono hg6
  replace hN := hN.mono hg6
  first | (refine Tr.seq ?_) | (refine Tr.next ?_; refine Tr.seq ?_)
  refine Tr.cut (α := Mem × Nat × Option Addr × Nat × Option Addr × Nat × Option Addr × Nat × Option Addr × Nat) (fun y => ⟨205, [(1, .pointer (some ⟨b1, 0, none⟩)), (2, .pointer (some ⟨b2, 0, none⟩)), (3, .int .i64 0), (4, .slice A3 0 c3), (5, .int .i64 0), (7, .int .i64 330), (9, .int .i64 330), (10, .slice (some ⟨b6, 0, none⟩) 1 1), (11, .pointer (some ⟨y.2.1, 0, none⟩)), (12, .int .i64 0)], [], y.1, box y.2.1 27 [.int .i64 0, .slice y.2.2.1 2 y.2.2.2.1, .slice y.2.2.2.2.1 2 y.2.2.2.2.2.1, .slice y.2.2.2.2.2.2.1 2 y.2.2.2.2.2.2.2.1, .slice y.2.2.2.2.2.2.2.2.1 0 y.2.2.2.2.2.2.2.2.2] :: box b2 27 [n1, n2, n3, n4, n5] :: box b1 27 [v1, v2, v3, v4, v5] :: F⟩) (fun y => Mem.le M6 y.1 ∧ SlOf 6 RSp y.1 (.slice y.2.2.1 2 y.2.2.2.1) ([⟨0, 0, 0, 0, 0, 4⟩, ⟨1, 0, 0, 2, 0, 2⟩] : List Sp) ∧ SlOf 6 RRq y.1 (.slice y.2.2.2.2.1 2 y.2.2.2.2.2.1) ([⟨0, 0, 0, 5, 0, 4⟩, ⟨1, 0, 0, 3, 0, 0⟩] : List Rq)) ?_ (fun y hy => ?_)
  · skip
    (repeat (first | ((with_reducible refine Tr.step rfl ?_); (first | (refine xmQ (z := ?_)) | (refine xwQ (z := ?_)))) | (with_reducible refine Tr.region ?_)))
    have hcall := do_fn M6 _ sampB hS _ _ [⟨1, 1, 0, 0, 1⟩] hL
    try dsimp only [List.length_cons, List.length_nil] at hcall
    ((refine Tr.step rfl ?_)); refine Exec.call0 rfl (hcall) rfl ?_
    clear hcall
    rintro _ N2 hm2 ⟨w, rfl, hB⟩
    rw [sv5] at hB ⊢
    dsimp only at hB ⊢
    obtain ⟨As, cs, Ar, cr, Af, cf, Ad, cd, rfl, q1, q2, q3⟩ := hB
    dsimp only [List.length_cons, List.length_nil] at q1 q2 q3 ⊢
    (repeat (first | ((with_reducible refine Tr.step rfl ?_); (first | (refine xmQ (z := ?_)) | (refine xaQ (z := ?_)) | (refine xWQ (z := ?_)) | ((with_reducible refine Knd.alloc ?_); (refine Exec.alloc (tysOk.get rfl) rfl rfl (fun b => ?_))) | ((with_reducible refine Knd.extract ?_); (refine Exec.stab rfl (Stab.extract rfl rfl) rfl ?_)))) | (with_reducible refine Tr.nil ?_)))
    refine Tr.land (N2, _, As, cs, Ar, cr, Af, cf, Ad, cd) ⟨hm2, q1, q2⟩ hsQ
  obtain ⟨M7, b7, As7, cs7, Ar7, cr7, Af7, cf7, Ad7, cd7⟩ := y
  obtain ⟨hg7, h7s, h7r⟩ := hy
  dsimp only at hg7 h7s h7r ⊢
  replace hS := hS.mono hg7
  replace hN := hN.mono hg7
  replace hL := hL.mono RHp.mono hg7
  first | (refine Tr.seq ?_) | (refine Tr.next ?_; refine Tr.seq ?_)
  refine Tr.cut (α := Mem × Option Addr × Nat) (fun y => ⟨205, [(1, .pointer (some ⟨b1, 0, none⟩)), (2, .pointer (some ⟨b2, 0, none⟩)), (3, .int .i64 0), (4, .slice A3 0 c3), (5, .int .i64 0), (7, .int .i64 330), (9, .int .i64 330), (10, .slice (some ⟨b6, 0, none⟩) 1 1), (11, .pointer (some ⟨b7, 0, none⟩)), (12, .int .i64 0), (13, .slice y.2.1 1 y.2.2), (14, .int .i64 0)], [], y.1, box b7 27 [.int .i64 0, .slice As7 2 cs7, .slice Ar7 2 cr7, .slice Af7 2 cf7, .slice Ad7 0 cd7] :: box b2 27 [n1, n2, n3, n4, n5] :: box b1 27 [v1, v2, v3, v4, v5] :: F⟩) (fun y => Mem.le M7 y.1 ∧ SlOf 2 RBr y.1 (.slice y.2.1 1 y.2.2) ([(1, [0])] : List (Nat × List Nat))) ?_ (fun y hy => ?_)
  · skip
    (repeat (first | ((with_reducible refine Tr.step rfl ?_); (first | (refine xmQ (z := ?_)) | (refine xwQ (z := ?_)))) | (with_reducible refine Tr.region ?_)))
    have hcall := broken_fn M7 _ sampB hS _ _ [⟨1, 1, 0, 0, 1⟩] hL (by decide)
    try dsimp only [List.length_cons, List.length_nil] at hcall
    ((refine Tr.step rfl ?_)); refine Exec.call0 rfl (hcall) rfl ?_
    clear hcall
    rintro _ N2 hm2 ⟨A9, c9, rfl, hB⟩
    rw [sv6] at hB ⊢
    dsimp only [List.length_cons, List.length_nil] at hB ⊢
    (repeat (first | ((with_reducible refine Tr.step rfl ?_); (first | (refine xmQ (z := ?_)) | (refine xaQ (z := ?_)) | ((with_reducible refine Knd.extract ?_); (refine Exec.stab rfl (Stab.extract rfl rfl) rfl ?_)))) | (with_reducible refine Tr.nil ?_)))
    refine Tr.land (N2, A9, c9) ⟨hm2, hB⟩ hsQ
  obtain ⟨M8, A8, c8⟩ := y
  obtain ⟨hg8, h8⟩ := hy
  dsimp only at hg8 h8 ⊢
  replace hS := hS.mono hg8
  replace hN := hN.mono hg8
  replace hL := hL.mono RHp.mono hg8
  replace h7s := h7s.mono RSp.mono hg8
  replace h7r := h7r.mono RRq.mono hg8
  first | (refine Tr.seq ?_) | (refine Tr.next ?_; refine Tr.seq ?_)
  refine Tr.cut (α := Mem × Option Addr × Nat) (fun y => ⟨205, [(1, .pointer (some ⟨b1, 0, none⟩)), (2, .pointer (some ⟨b2, 0, none⟩)), (3, .int .i64 0), (4, .slice A3 0 c3), (5, .int .i64 0), (7, .int .i64 330), (9, .int .i64 330), (10, .slice (some ⟨b6, 0, none⟩) 1 1), (11, .pointer (some ⟨b7, 0, none⟩)), (12, .int .i64 0), (13, .slice A8 1 c8), (14, .int .i64 0), (15, .slice y.2.1 1 y.2.2), (16, .int .i64 0)], [], y.1, box b7 27 [.int .i64 0, .slice As7 2 cs7, .slice Ar7 2 cr7, .slice Af7 2 cf7, .slice Ad7 0 cd7] :: box b2 27 [n1, n2, n3, n4, n5] :: box b1 27 [v1, v2, v3, v4, v5] :: F⟩) (fun y => Mem.le M8 y.1 ∧ SlOf 5 RHp y.1 (.slice y.2.1 1 y.2.2) ([⟨3, 0, 1, 3, 3⟩] : List Hp)) ?_ (fun y hy => ?_)
  · skip
    (repeat (first | ((with_reducible refine Tr.step rfl ?_); (with_reducible refine Knd.load ?_); (refine xwQ (z := ?_))) | (with_reducible refine Tr.region ?_)))
    have hcall := ship0_fn M8 _ sampB hS none 0 ([] : List Hp) (SlOf.nil _ _ _) 3
    try dsimp only [List.length_cons, List.length_nil] at hcall
    ((refine Tr.step rfl ?_)); refine Exec.call0 rfl (hcall) rfl ?_
    clear hcall
    rintro _ N2 hm2 ⟨A9, c9, rfl, hB, hex⟩
    rw [sv7 hex] at hB ⊢
    dsimp only [List.length_cons, List.length_nil] at hB ⊢
    (repeat (first | ((with_reducible refine Tr.step rfl ?_); (first | (refine xmQ (z := ?_)) | (refine xaQ (z := ?_)) | ((with_reducible refine Knd.extract ?_); (refine Exec.stab rfl (Stab.extract rfl rfl) rfl ?_)))) | (with_reducible refine Tr.nil ?_)))
    refine Tr.land (N2, A9, c9) ⟨hm2, hB⟩ hsQ
  obtain ⟨M9, A9, c9⟩ := y
  obtain ⟨hg9, h9⟩ := hy
  dsimp only at hg9 h9 ⊢
  replace hS := hS.mono hg9
  replace hN := hN.mono hg9
  replace hL := hL.mono RHp.mono hg9
  replace h7s := h7s.mono RSp.mono hg9
  replace h7r := h7r.mono RRq.mono hg9
  replace h8 := h8.mono RBr.mono hg9
  first | (refine Tr.seq ?_) | (refine Tr.next ?_; refine Tr.seq ?_)
  refine Tr.cut (α := Mem) (fun y => ⟨205, [(1, .pointer (some ⟨b1, 0, none⟩)), (2, .pointer (some ⟨b2, 0, none⟩)), (3, .int .i64 0), (4, .slice A3 0 c3), (5, .int .i64 0), (7, .int .i64 330), (9, .int .i64 330), (10, .slice (some ⟨b6, 0, none⟩) 1 1), (11, .pointer (some ⟨b7, 0, none⟩)), (12, .int .i64 0), (13, .slice A8 1 c8), (14, .int .i64 0), (15, .slice A9 1 c9), (16, .int .i64 0), (18, .int .i64 330)], [], y, box b7 27 [.int .i64 0, .slice As7 2 cs7, .slice Ar7 2 cr7, .slice Af7 2 cf7, .slice Ad7 0 cd7] :: box b2 27 [n1, n2, n3, n4, n5] :: box b1 27 [v1, v2, v3, v4, v5] :: F⟩) (fun y => Mem.le M9 y) ?_ (fun y hy => ?_)
  · skip
    (repeat (first | ((with_reducible refine Tr.step rfl ?_); (first | (refine xwQ (z := ?_)) | ((with_reducible refine Knd.build ?_); (refine Exec.stab rfl (Stab.build tysOk rfl rfl rfl rfl (by repeat (first | exact BuildP.nil | ((apply BuildP.one); (rfl); (rfl); (first | rfl | assumption); (repeat (first | exact SetL.z | apply SetL.s)))))) rfl ?_)) | ((with_reducible refine Knd.buildSlice ?_); (refine Exec.buildSlice (tysOk.get rfl) rfl (tysOk.get rfl) rfl rfl rfl rfl rfl (by repeat (first | exact BuildP.nil | ((apply BuildP.many); (rfl); (rfl); (rfl); (rfl); (repeat (first | exact PutL.nil | ((apply PutL.cons); (repeat (first | exact SetL.z | apply SetL.s)))))))) rfl (fun b => ?_))))) | (with_reducible refine Tr.region ?_)))
    refine pbQ (r := box _ 44 _) (k := fun N1 hm1 ok1 => ?_)
    have iH := ofH (l := [⟨3, 0, 0, 4, 2⟩]) ok1 (by decide)
    clear ok1
    have hcall := do_fn N1 _ sampB (hS.mono hm1) _ _ _ iH
    try dsimp only [List.length_cons, List.length_nil] at hcall
    ((refine Tr.step rfl ?_)); refine Exec.call0 rfl (hcall) rfl ?_
    clear hcall
    rintro _ N2 hm2 ⟨w, rfl, hB⟩
    rw [sv8] at hB ⊢
    dsimp only at hB ⊢
    obtain ⟨u1, u2, u3, u4, u5, rfl, o1, o2, o3, o4, o5⟩ := hB.open5
    (repeat (first | ((with_reducible refine Tr.step rfl ?_); (first | (refine xmQ (z := ?_)) | (refine xaQ (z := ?_)) | (refine xWQ (z := ?_)) | ((with_reducible refine Knd.alloc ?_); (refine Exec.alloc (tysOk.get rfl) rfl rfl (fun b => ?_))) | ((with_reducible refine Knd.extract ?_); (refine Exec.stab rfl (Stab.extract rfl rfl) rfl ?_)))) | (with_reducible refine Tr.nil ?_)))
    refine Tr.land N2 (hm1.trans hm2) hsQ
  generalize y = M10 at *
  have hg10 := hy
  replace hS := hS.mono hg10
  replace hN := hN.mono hg10
  replace hL := hL.mono RHp.mono hg10
  replace h7s := h7s.mono RSp.mono hg10
  replace h7r := h7r.mono RRq.mono hg10
  replace h8 := h8.mono RBr.mono hg10
  replace h9 := h9.mono RHp.mono hg10
  first | (refine Tr.seq ?_) | (refine Tr.next ?_; refine Tr.seq ?_)
  refine Tr.cut (α := Mem × Nat × Option Addr × Nat × Option Addr × Nat × Option Addr × Nat × Option Addr × Nat) (fun y => ⟨205, [(1, .pointer (some ⟨b1, 0, none⟩)), (2, .pointer (some ⟨b2, 0, none⟩)), (3, .int .i64 0), (4, .slice A3 0 c3), (5, .int .i64 0), (7, .int .i64 330), (9, .int .i64 330), (10, .slice (some ⟨b6, 0, none⟩) 1 1), (11, .pointer (some ⟨b7, 0, none⟩)), (12, .int .i64 0), (13, .slice A8 1 c8), (14, .int .i64 0), (15, .slice A9 1 c9), (16, .int .i64 0), (18, .int .i64 330), (19, .pointer (some ⟨y.2.1, 0, none⟩)), (20, .int .i64 0)], [], y.1, box y.2.1 27 [.int .i64 0, .slice y.2.2.1 2 y.2.2.2.1, .slice y.2.2.2.2.1 2 y.2.2.2.2.2.1, .slice y.2.2.2.2.2.2.1 2 y.2.2.2.2.2.2.2.1, .slice y.2.2.2.2.2.2.2.2.1 0 y.2.2.2.2.2.2.2.2.2] :: box b7 27 [.int .i64 0, .slice As7 2 cs7, .slice Ar7 2 cr7, .slice Af7 2 cf7, .slice Ad7 0 cd7] :: box b2 27 [n1, n2, n3, n4, n5] :: box b1 27 [v1, v2, v3, v4, v5] :: F⟩) (fun y => Mem.le M10 y.1 ∧ SlOf 6 RSp y.1 (.slice y.2.2.1 2 y.2.2.2.1) ([⟨0, 0, 0, 0, 0, 3⟩, ⟨1, 0, 0, 2, 0, 3⟩] : List Sp) ∧ SlOf 6 RRq y.1 (.slice y.2.2.2.2.1 2 y.2.2.2.2.2.1) ([⟨0, 0, 0, 5, 0, 3⟩, ⟨1, 0, 0, 3, 0, 3⟩] : List Rq)) ?_ (fun y hy => ?_)
  · skip
    (repeat (first | ((with_reducible refine Tr.step rfl ?_); (first | (refine xwQ (z := ?_)) | ((with_reducible refine Knd.build ?_); (refine Exec.stab rfl (Stab.build tysOk rfl rfl rfl rfl (by repeat (first | exact BuildP.nil | ((apply BuildP.one); (rfl); (rfl); (first | rfl | assumption); (repeat (first | exact SetL.z | apply SetL.s)))))) rfl ?_)) | ((with_reducible refine Knd.buildSlice ?_); (refine Exec.buildSlice (tysOk.get rfl) rfl (tysOk.get rfl) rfl rfl rfl rfl rfl (by repeat (first | exact BuildP.nil | ((apply BuildP.many); (rfl); (rfl); (rfl); (rfl); (repeat (first | exact PutL.nil | ((apply PutL.cons); (repeat (first | exact SetL.z | apply SetL.s)))))))) rfl (fun b => ?_))))) | (with_reducible refine Tr.region ?_)))
    refine pbQ (r := box _ 44 _) (k := fun N1 hm1 ok1 => ?_)
    have iH := ofH (l := [⟨3, 0, 0, 4, 1⟩]) ok1 (by decide)
    clear ok1
    have hcall := do_fn N1 _ sampB (hS.mono hm1) _ _ _ iH
    try dsimp only [List.length_cons, List.length_nil] at hcall
    ((refine Tr.step rfl ?_)); refine Exec.call0 rfl (hcall) rfl ?_
    clear hcall
    rintro _ N2 hm2 ⟨w, rfl, hB⟩
    rw [sv9] at hB ⊢
    dsimp only at hB ⊢
    obtain ⟨As, cs, Ar, cr, Af, cf, Ad, cd, rfl, q1, q2, q3⟩ := hB
    dsimp only [List.length_cons, List.length_nil] at q1 q2 q3 ⊢
    (repeat (first | ((with_reducible refine Tr.step rfl ?_); (first | (refine xmQ (z := ?_)) | (refine xaQ (z := ?_)) | (refine xWQ (z := ?_)) | ((with_reducible refine Knd.alloc ?_); (refine Exec.alloc (tysOk.get rfl) rfl rfl (fun b => ?_))) | ((with_reducible refine Knd.extract ?_); (refine Exec.stab rfl (Stab.extract rfl rfl) rfl ?_)))) | (with_reducible refine Tr.nil ?_)))
    refine Tr.land (N2, _, As, cs, Ar, cr, Af, cf, Ad, cd) ⟨hm1.trans hm2, q1, q2⟩ hsQ
  obtain ⟨M11, b11, As11, cs11, Ar11, cr11, Af11, cf11, Ad11, cd11⟩ := y
  obtain ⟨hg11, h11s, h11r⟩ := hy
  dsimp only at hg11 h11s h11r ⊢
  replace hS := hS.mono hg11
  replace hN := hN.mono hg11
  replace hL := hL.mono RHp.mono hg11
  replace h7s := h7s.mono RSp.mono hg11
  replace h7r := h7r.mono RRq.mono hg11
  replace h8 := h8.mono RBr.mono hg11
  replace h9 := h9.mono RHp.mono hg11
  first | (refine Tr.seq ?_) | (refine Tr.next ?_; refine Tr.seq ?_)
  refine Tr.cut (α := Mem × Option Addr × Nat) (fun y => ⟨205, [(1, .pointer (some ⟨b1, 0, none⟩)), (2, .pointer (some ⟨b2, 0, none⟩)), (3, .int .i64 0), (4, .slice A3 0 c3), (5, .int .i64 0), (7, .int .i64 330), (9, .int .i64 330), (10, .slice (some ⟨b6, 0, none⟩) 1 1), (11, .pointer (some ⟨b7, 0, none⟩)), (12, .int .i64 0), (13, .slice A8 1 c8), (14, .int .i64 0), (15, .slice A9 1 c9), (16, .int .i64 0), (18, .int .i64 330), (19, .pointer (some ⟨b11, 0, none⟩)), (20, .int .i64 0), (21, .slice y.2.1 1 y.2.2), (22, .int .i64 0)], [], y.1, box b11 27 [.int .i64 0, .slice As11 2 cs11, .slice Ar11 2 cr11, .slice Af11 2 cf11, .slice Ad11 0 cd11] :: box b7 27 [.int .i64 0, .slice As7 2 cs7, .slice Ar7 2 cr7, .slice Af7 2 cf7, .slice Ad7 0 cd7] :: box b2 27 [n1, n2, n3, n4, n5] :: box b1 27 [v1, v2, v3, v4, v5] :: F⟩) (fun y => Mem.le M11 y.1 ∧ SlOf 2 RBr y.1 (.slice y.2.1 1 y.2.2) ([(1, [1])] : List (Nat × List Nat))) ?_ (fun y hy => ?_)
  · skip
    (repeat (first | ((with_reducible refine Tr.step rfl ?_); (first | (refine xwQ (z := ?_)) | ((with_reducible refine Knd.build ?_); (refine Exec.stab rfl (Stab.build tysOk rfl rfl rfl rfl (by repeat (first | exact BuildP.nil | ((apply BuildP.one); (rfl); (rfl); (first | rfl | assumption); (repeat (first | exact SetL.z | apply SetL.s)))))) rfl ?_)) | ((with_reducible refine Knd.buildSlice ?_); (refine Exec.buildSlice (tysOk.get rfl) rfl (tysOk.get rfl) rfl rfl rfl rfl rfl (by repeat (first | exact BuildP.nil | ((apply BuildP.many); (rfl); (rfl); (rfl); (rfl); (repeat (first | exact PutL.nil | ((apply PutL.cons); (repeat (first | exact SetL.z | apply SetL.s)))))))) rfl (fun b => ?_))))) | (with_reducible refine Tr.region ?_)))
    refine pbQ (r := box _ 44 _) (k := fun N1 hm1 ok1 => ?_)
    have iH := ofH (l := [⟨3, 0, 0, 4, 1⟩, ⟨2, 1, 0, 6, 0⟩]) ok1 (by decide)
    clear ok1
    have hcall := broken_fn N1 _ sampB (hS.mono hm1) _ _ _ iH (by decide)
    try dsimp only [List.length_cons, List.length_nil] at hcall
    ((refine Tr.step rfl ?_)); refine Exec.call0 rfl (hcall) rfl ?_
    clear hcall
    rintro _ N2 hm2 ⟨A9, c9, rfl, hB⟩
    rw [sv10] at hB ⊢
    dsimp only [List.length_cons, List.length_nil] at hB ⊢
    (repeat (first | ((with_reducible refine Tr.step rfl ?_); (first | (refine xmQ (z := ?_)) | (refine xaQ (z := ?_)) | ((with_reducible refine Knd.extract ?_); (refine Exec.stab rfl (Stab.extract rfl rfl) rfl ?_)))) | (with_reducible refine Tr.nil ?_)))
    refine Tr.land (N2, A9, c9) ⟨hm1.trans hm2, hB⟩ hsQ
  obtain ⟨M12, A12, c12⟩ := y
  obtain ⟨hg12, h12⟩ := hy
  dsimp only at hg12 h12 ⊢
  replace hS := hS.mono hg12
  replace hN := hN.mono hg12
  replace hL := hL.mono RHp.mono hg12
  replace h7s := h7s.mono RSp.mono hg12
  replace h7r := h7r.mono RRq.mono hg12
  replace h8 := h8.mono RBr.mono hg12
  replace h9 := h9.mono RHp.mono hg12
  replace h11s := h11s.mono RSp.mono hg12
  replace h11r := h11r.mono RRq.mono hg12
  first | (refine Tr.seq ?_) | (refine Tr.next ?_; refine Tr.seq ?_)
  refine Tr.cut (α := Unit) (fun _ => ⟨205, [(1, .pointer (some ⟨b1, 0, none⟩)), (2, .pointer (some ⟨b2, 0, none⟩)), (4, .slice A3 0 c3), (11, .pointer (some ⟨b7, 0, none⟩)), (13, .slice A8 1 c8), (15, .slice A9 1 c9), (19, .pointer (some ⟨b11, 0, none⟩)), (21, .slice A12 1 c12)], [], M12, box b11 27 [.int .i64 0, .slice As11 2 cs11, .slice Ar11 2 cr11, .slice Af11 2 cf11, .slice Ad11 0 cd11] :: box b7 27 [.int .i64 0, .slice As7 2 cs7, .slice Ar7 2 cr7, .slice Af7 2 cf7, .slice Ad7 0 cd7] :: box b2 27 [n1, n2, n3, n4, n5] :: box b1 27 [v1, v2, v3, v4, v5] :: F⟩) (fun _ => True) ?_ (fun _ _ => ?_)
  · (repeat (first | ((with_reducible refine Tr.step rfl ?_); (first | (refine xmQ (z := ?_)) | (refine xiQ (z := ?_)) | ((with_reducible refine Knd.pick ?_); (refine Exec.stab rfl (Stab.pick_fd rfl (by (with_reducible exact (not_not_intro rfl))) rfl) rfl ?_)))) | (with_reducible first | apply Tr.next | apply Tr.seq | apply Tr.region | apply Tr.nil) | ((refine Tr.guard_y' rfl rfl rfl (by (with_reducible exact (not_not_intro rfl))) ?_); (first | (refine xmQ (z := ?_)) | (refine xlQ (z := ?_)) | (refine xfQ (z := ?_)) | (refine xnQ (z := ?_)) | (refine xiQ (z := ?_)))) | (with_reducible refine Tr.skip ?_) | (refine Tr.cond_f rfl (by (with_reducible exact (not_not_intro rfl))) ?_)))
    refine Tr.land () trivial hsQ
  obtain ⟨i7r0, _, a7r0, rfl⟩ := h7r.elem (i := 0) rfl
  obtain ⟨i7r1, _, a7r1, rfl⟩ := h7r.elem (i := 1) rfl
  obtain ⟨i7s1, _, a7s1, rfl⟩ := h7s.elem (i := 1) rfl
  obtain ⟨i11r0, _, a11r0, rfl⟩ := h11r.elem (i := 0) rfl
  obtain ⟨i11s0, _, a11s0, rfl⟩ := h11s.elem (i := 0) rfl
  replace a7r0 := a7r0.drop 5
  replace a7r1 := a7r1.drop 5
  replace a7s1 := a7s1.drop 5
  replace a11r0 := a11r0.drop 5
  replace a11s0 := a11s0.drop 5
  dsimp only [List.drop] at a7r0 a7r1 a7s1 a11r0 a11s0
  first | (refine Tr.seq ?_) | (refine Tr.next ?_; refine Tr.seq ?_)
  refine Tr.cut (α := Mem) (fun y => ⟨205, [(0, .bool true)], [], y, F⟩) (fun y => Mem.le M12 y) ?_ (fun y hy => ?_)
  · (repeat (first | ((with_reducible refine Tr.step rfl ?_); (first | (refine xwQ (z := ?_)) | ((with_reducible refine Knd.build ?_); (refine Exec.stab rfl (Stab.build tysOk rfl rfl rfl rfl (by repeat (exact BuildP.nil))) rfl ?_)))) | (with_reducible first | apply Tr.app | apply Tr.region)))
    have hcall := sameBook_fn M12 _ _ zB zB hN (RBk.zero _)
    try dsimp only [List.length_cons, List.length_nil] at hcall
    ((refine Tr.step rfl ?_)); refine Exec.call0 rfl (hcall) rfl ?_
    clear hcall
    rintro _ _ _ ⟨⟨bb, rfl, hbb⟩, rfl⟩
    obtain rfl := hbb.2 rfl
    (repeat (first | ((with_reducible refine Tr.step rfl ?_); (first | (refine xmQ (z := ?_)) | ((with_reducible refine Knd.pick ?_); (refine Exec.stab rfl (Stab.pick_t rfl (by (with_reducible rfl)) rfl) rfl ?_)))) | (with_reducible refine Tr.app ?_) | ((refine Tr.guard_l rfl rfl rfl (by (with_reducible rfl)) ?_); (first | (refine xmQ (z := ?_)) | (refine xnQ (z := ?_)) | (refine xiQ (z := ?_)))) | ((refine Tr.guard_y rfl rfl rfl (by omega) ?_); (first | (refine xmQ (z := ?_)) | ((with_reducible refine Knd.build ?_); (refine Exec.stab rfl (Stab.build tysOk rfl rfl rfl rfl (by repeat (first | exact BuildP.nil | ((apply BuildP.one); (rfl); (rfl); (first | rfl | assumption); (repeat (first | exact SetL.z | apply SetL.s)))))) rfl ?_)) | ((with_reducible refine Knd.buildSlice ?_); (refine Exec.buildSlice (tysOk.get rfl) rfl (tysOk.get rfl) rfl rfl rfl rfl rfl (by repeat (first | exact BuildP.nil | ((apply BuildP.one); (rfl); (rfl); (first | rfl | assumption); (repeat (first | exact SetL.z | apply SetL.s))) | ((apply BuildP.many); (rfl); (rfl); (rfl); (rfl); (repeat (first | exact PutL.nil | ((apply PutL.cons); (repeat (first | exact SetL.z | apply SetL.s)))))))) rfl (fun b => ?_)))))))
    refine pbQ (r := box _ 3 _) (k := fun N1 hm1 ok1 => ?_)
    have i1 := Ints.ofBox (l := nats_ [0]) ok1 (by decide)
    refine pbQ (r := box _ 52 _) (k := fun N2 hm2 ok2 => ?_)
    have i2 := ofBr1 (x := (1, [0])) ok2 (i1.mono RI.mono hm2)
    clear ok1 ok2
    have m2 := hm1.trans hm2
    have hcall := sameBroken_fn N2 _ _ _ _ [(1, [0])] _ (h8.mono RBr.mono m2) i2
    try dsimp only [List.length_cons, List.length_nil] at hcall
    ((refine Tr.guard_y rfl rfl rfl (by omega) ?_)); refine Exec.call0 rfl (hcall) rfl ?_
    clear hcall
    rintro _ _ _ ⟨⟨bb, rfl, hbb⟩, rfl⟩
    obtain rfl := hbb.2 rfl
    replace a7r0 := a7r0.mono m2
    replace a7r1 := a7r1.mono m2
    replace a7s1 := a7s1.mono m2
    (repeat (first | ((with_reducible refine Tr.step rfl ?_); (first | (refine xmQ (z := ?_)) | ((with_reducible refine Knd.pick ?_); (first | (refine Exec.stab rfl (Stab.pick_t rfl (by (with_reducible rfl)) rfl) rfl ?_) | (refine Exec.stab rfl (Stab.pick_td rfl (by first | (with_reducible rfl) | omega) rfl) rfl ?_))))) | (with_reducible first | apply Tr.app | apply Tr.app0) | ((refine Tr.guard_l rfl rfl rfl (by (with_reducible rfl)) ?_); (first | ((with_reducible refine Knd.load ?_); (first | (refine xlQ (z := ?_)) | (refine xMQ (z := ?_)))) | ((with_reducible refine Knd.fieldAddr ?_); (first | (refine xfQ (z := ?_)) | (refine Exec.stab rfl (Stab.fieldD rfl (tysOk.get rfl) rfl rfl (tysOk.get rfl) rfl) rfl ?_))) | (refine xiQ (z := ?_)) | (refine xxQ (z := ?_)))) | ((refine Tr.guard_y rfl rfl rfl (by (with_reducible rfl)) ?_); (first | (refine xmQ (z := ?_)) | ((with_reducible refine Knd.load ?_); (first | (refine xlQ (z := ?_)) | (refine xMQ (z := ?_)))) | ((with_reducible refine Knd.fieldAddr ?_); (first | (refine xfQ (z := ?_)) | (refine Exec.stab rfl (Stab.fieldD rfl (tysOk.get rfl) rfl rfl (tysOk.get rfl) rfl) rfl ?_))) | (refine xiQ (z := ?_)) | (refine xxQ (z := ?_)) | ((with_reducible refine Knd.build ?_); (refine Exec.stab rfl (Stab.build tysOk rfl rfl rfl rfl (by repeat (first | exact BuildP.nil | ((apply BuildP.one); (rfl); (rfl); (first | rfl | assumption); (repeat (first | exact SetL.z | apply SetL.s)))))) rfl ?_)) | ((with_reducible refine Knd.buildSlice ?_); (refine Exec.buildSlice (tysOk.get rfl) rfl (tysOk.get rfl) rfl rfl rfl rfl rfl (by repeat (first | exact BuildP.nil | ((apply BuildP.many); (rfl); (rfl); (rfl); (rfl); (repeat (first | exact PutL.nil | ((apply PutL.cons); (repeat (first | exact SetL.z | apply SetL.s)))))))) rfl (fun b => ?_)))))))
    refine pbQ (r := box _ 44 _) (k := fun N3 hm3 ok3 => ?_)
    have i3 := ofH (l := [⟨3, 0, 1, 3, 3⟩]) ok3 (by decide)
    clear ok3
    have m3 := m2.trans hm3
    have hcall := sameHap_fn N3 _ _ _ _ [⟨3, 0, 1, 3, 3⟩] _ (h9.mono RHp.mono m3) i3
    try dsimp only [List.length_cons, List.length_nil] at hcall
    ((refine Tr.guard_y rfl rfl rfl (by (with_reducible rfl)) ?_)); refine Exec.call0 rfl (hcall) rfl ?_
    clear hcall
    rintro _ _ _ ⟨⟨bb, rfl, hbb⟩, rfl⟩
    obtain rfl := hbb.2 rfl
    replace a11r0 := a11r0.mono m3
    replace a11s0 := a11s0.mono m3
    (repeat (first | ((with_reducible refine Tr.step rfl ?_); (first | (refine xmQ (z := ?_)) | ((with_reducible refine Knd.pick ?_); (first | (refine Exec.stab rfl (Stab.pick_t rfl (by (with_reducible rfl)) rfl) rfl ?_) | (refine Exec.stab rfl (Stab.pick_td rfl (by (with_reducible rfl)) rfl) rfl ?_))))) | ((refine Tr.guard_l rfl rfl rfl (by (with_reducible rfl)) ?_); (first | ((with_reducible refine Knd.load ?_); (first | (refine xlQ (z := ?_)) | (refine xMQ (z := ?_)))) | ((with_reducible refine Knd.fieldAddr ?_); (first | (refine xfQ (z := ?_)) | (refine Exec.stab rfl (Stab.fieldD rfl (tysOk.get rfl) rfl rfl (tysOk.get rfl) rfl) rfl ?_))) | (refine xiQ (z := ?_)) | (refine xxQ (z := ?_)))) | ((refine Tr.guard_y rfl rfl rfl (by (with_reducible rfl)) ?_); (first | (refine xmQ (z := ?_)) | ((with_reducible refine Knd.load ?_); (first | (refine xlQ (z := ?_)) | (refine xMQ (z := ?_)))) | ((with_reducible refine Knd.fieldAddr ?_); (first | (refine xfQ (z := ?_)) | (refine Exec.stab rfl (Stab.fieldD rfl (tysOk.get rfl) rfl rfl (tysOk.get rfl) rfl) rfl ?_))) | (refine xiQ (z := ?_)) | (refine xxQ (z := ?_)) | ((with_reducible refine Knd.build ?_); (refine Exec.stab rfl (Stab.build tysOk rfl rfl rfl rfl (by repeat (first | exact BuildP.nil | ((apply BuildP.one); (rfl); (rfl); (first | rfl | assumption); (repeat (first | exact SetL.z | apply SetL.s)))))) rfl ?_)) | ((with_reducible refine Knd.buildSlice ?_); (refine Exec.buildSlice (tysOk.get rfl) rfl (tysOk.get rfl) rfl rfl rfl rfl rfl (by repeat (first | exact BuildP.nil | ((apply BuildP.one); (rfl); (rfl); (first | rfl | assumption); (repeat (first | exact SetL.z | apply SetL.s))) | ((apply BuildP.many); (rfl); (rfl); (rfl); (rfl); (repeat (first | exact PutL.nil | ((apply PutL.cons); (repeat (first | exact SetL.z | apply SetL.s)))))))) rfl (fun b => ?_)))))))
    refine pbQ (r := box _ 3 _) (k := fun N4 hm4 ok4 => ?_)
    have i4 := Ints.ofBox (l := nats_ [1]) ok4 (by decide)
    refine pbQ (r := box _ 52 _) (k := fun N5 hm5 ok5 => ?_)
    have i5 := ofBr1 (x := (1, [1])) ok5 (i4.mono RI.mono hm5)
    clear ok4 ok5
    have m5 := m3.trans (hm4.trans hm5)
    have hcall := sameBroken_fn N5 _ _ _ _ [(1, [1])] _ (h12.mono RBr.mono m5) i5
    try dsimp only [List.length_cons, List.length_nil] at hcall
    ((refine Tr.guard_y rfl rfl rfl (by (with_reducible rfl)) ?_)); refine Exec.call0 rfl (hcall) rfl ?_
    clear hcall
    rintro _ _ _ ⟨⟨bb, rfl, hbb⟩, rfl⟩
    obtain rfl := hbb.2 rfl
    (repeat (first | ((with_reducible refine Tr.step rfl ?_); (first | (refine xaQ (z := ?_)) | ((with_reducible refine Knd.pick ?_); (refine Exec.stab rfl (Stab.pick_td rfl (by (with_reducible rfl)) rfl) rfl ?_)))) | (with_reducible refine Tr.nil ?_)))
    refine Tr.land N5 m5 hsQ
  (repeat (first | (with_reducible first | apply Tr.next | apply Tr.ret)))
  have hfin := hg1.trans (hg2.trans (hg3.trans (hg4.trans (hg5.trans (hg6.trans (hg7.trans (hg8.trans (hg9.trans (hg10.trans (hg11.trans (hg12.trans hy)))))))))))
  (refine dnQ (hL := by exact ⟨[], rfl⟩) (k := ⟨rfl, ?_⟩))
  rfl
end Go.Proofs.Ytgnipfjjkliibaa

/-
  Honour: what Broken answers, one by one; what is broken was broken by a happening that is no ship. Plain.
  Conditions: none.
-/
namespace Go.Proofs.Ytgnipfjjkliibaa
open Go Bf
theorem any_take {α : Type} {p : α → Bool} {l : List α} {i : Nat} {x : α} (h : l[i]? = some x) : (l.take (i + 1)).any p = ((l.take i).any p || p x) := by
  rw [List.take_add_one, h, List.any_append]
  simp
attribute [local irreducible] Tr Exec Stab HasTy Go.Addr.add IntKind.wrap
end Go.Proofs.Ytgnipfjjkliibaa

/-
  There is a greatest allocation, if there is one. Plain.
  Conditions: none.
-/
namespace Go.Proofs.Ytgnipfjjkliibaa
open Go Bf
/-- before a place -/
def bef (i j i' j' : Nat) : Prop := i' < i ∨ (i' = i ∧ j' < j)
structure Upto (p : Pb) (i j : Nat) (a : Nat → Nat → Int) : Prop where
  flow : Flow p a fun _ => 0
  max : ∀ a', (Flow p a' fun _ => 0) → ∀ i', i' < p.n → ∀ j', j' < p.m → bef i j i' j' → (∀ k, k < i' → ∀ b, b < p.m → a' k b = a k b) → (∀ b, b < j' → a' i' b = a i' b) → a' i' j' ≤ a i' j'
theorem greatest {α : Type} (S : α → Prop) (f : α → Int) (B : Int) (hB : ∀ x, S x → f x ≤ B) (h : ∃ x, S x) : ∃ x, S x ∧ ∀ y, S y → f y ≤ f x := by
  obtain ⟨x0, h0⟩ := h
  obtain ⟨m, ⟨x, hx, e⟩, hm⟩ := least (p := fun m => ∃ x, S x ∧ (B - f x).toNat = m) ⟨_, x0, h0, rfl⟩
  refine ⟨x, hx, fun y hy => ?_⟩
  have h1 := hm _ ⟨y, hy, rfl⟩
  have h2 := hB x hx
  have h3 := hB y hy
  omega
theorem Upto.next {p : Pb} {i j : Nat} {a : Nat → Nat → Int} (h : Upto p i j a) (hi : i < p.n) (hj : j < p.m) : ∃ b, Upto p i (j + 1) b := by
  obtain ⟨b, ⟨hf, hag⟩, hmax⟩ := greatest (fun b : Nat → Nat → Int => (Flow p b fun _ => 0) ∧ ∀ i', i' < p.n → ∀ j', j' < p.m → bef i j i' j' → b i' j' = a i' j') (fun b => b i j) (p.sup i) (fun b hb => by
      have h1 := hb.1.row i hi
      have h2 := sumN_le_of_mem (f := b i) (n := p.m + 1) (fun q hq => hb.1.nn i hi q (by omega)) (show j < p.m + 1 by omega)
      omega) ⟨a, h.flow, fun _ _ _ _ _ => rfl⟩
  refine ⟨b, hf, fun a' ha' i' hi' j' hj' hb' h1 h2 => ?_⟩
  by_cases c : i' = i ∧ j' = j
  · obtain ⟨rfl, rfl⟩ := c
    refine hmax a' ⟨ha', fun i2 hi2 j2 hj2 hb2 => ?_⟩
    rw [← hag i2 hi2 j2 hj2 hb2]
    rcases hb2 with q | ⟨rfl, q⟩
    · exact h1 i2 q j2 hj2
    · exact h2 j2 q
  · have hb2 : bef i j i' j' := by
      rcases hb' with q | ⟨q1, q2⟩
      · exact .inl q
      · exact .inr ⟨q1, by omega⟩
    rw [hag i' hi' j' hj' hb2]
    refine h.max a' ha' i' hi' j' hj' hb2 (fun k hk q hq => ?_) (fun q hq => ?_)
    · rw [h1 k hk q hq]
      refine hag k (by omega) q hq ?_
      rcases hb2 with z | ⟨z1, z2⟩
      · exact .inl (by omega)
      · exact .inl (by omega)
    · rw [h2 q hq]
      refine hag i' hi' q (by omega) ?_
      rcases hb2 with z | ⟨z1, z2⟩
      · exact .inl z
      · exact .inr ⟨z1, by omega⟩
theorem upto_row {p : Pb} {i : Nat} (hi : i < p.n) (h : ∃ a, Upto p i 0 a) : ∀ j, j ≤ p.m → ∃ a, Upto p i j a
  | 0, _ => h
  | j + 1, hj => by
    obtain ⟨a, ha⟩ := upto_row hi h j (by omega)
    exact ha.next hi (by omega)
theorem upto_all {p : Pb} (h : Feas p) : ∀ i, i ≤ p.n → ∃ a, Upto p i 0 a
  | 0, _ => by
    obtain ⟨a, ha⟩ := h
    refine ⟨a, ha, fun a' _ i' _ j' _ hb => ?_⟩
    rcases hb with q | ⟨q1, q2⟩ <;> omega
  | i + 1, hi => by
    obtain ⟨a, ha⟩ := upto_row (i := i) (by omega) (upto_all h i (by omega)) p.m (Nat.le_refl _)
    refine ⟨a, ha.flow, fun a' ha' i' hi' j' hj' hb => ha.max a' ha' i' hi' j' hj' ?_⟩
    rcases hb with q | ⟨q1, q2⟩
    · by_cases e : i' = i
      · exact .inr ⟨e, hj'⟩
      · exact .inl (by omega)
    · omega
theorem lexmax_ex {p : Pb} (h : Feas p) : ∃ a, LexMax p a := by
  obtain ⟨a, ha⟩ := upto_all h p.n (Nat.le_refl _)
  exact ⟨a, ha.flow, fun a' ha' i hi j hj h1 h2 => ha.max a' ha' i hi j hj (.inl hi) h1 h2⟩
open Classical in
noncomputable def lexA (p : Pb) : Nat → Nat → Int := if h : Feas p then Classical.choose (lexmax_ex h) else fun _ _ => 0
theorem lexA_max {p : Pb} (h : Feas p) : LexMax p (lexA p) := by
  unfold lexA
  rw [dif_pos h]
  exact Classical.choose_spec (lexmax_ex h)
end Go.Proofs.Ytgnipfjjkliibaa

/-
  Honour, the reference: in, with, serves, table, any.
  Conditions: none.
-/
namespace Go.Proofs.Ytgnipfjjkliibaa
open Go Bf
attribute [local irreducible] Tr Exec Stab HasTy Go.Addr.add IntKind.wrap
/-- a state of the reference in memory -/
def RSr (M : Mem) (v : Value) (s : St) : Prop := ∃ Aa ca Ad cd An cn Ab cb, v = .agg #[.slice Aa s.am.length ca, .slice Ad s.dy.length cd, .slice An s.nd.length cn, .slice Ab s.br.length cb] ∧
  Ints M (.slice Aa s.am.length ca) s.am ∧ Ints M (.slice Ad s.dy.length cd) s.dy ∧ Ints M (.slice An s.nd.length cn) s.nd ∧ Ints M (.slice Ab s.br.length cb) s.br
theorem RSr.mono {M M' : Mem} {v : Value} {s : St} (h : RSr M v s) (hm : Mem.le M M') : RSr M' v s := by
  obtain ⟨Aa, ca, Ad, cd, An, cn, Ab, cb, rfl, h1, h2, h3, h4⟩ := h
  exact ⟨Aa, ca, Ad, cd, An, cn, Ab, cb, rfl, h1.mono RI.mono hm, h2.mono RI.mono hm, h3.mono RI.mono hm, h4.mono RI.mono hm⟩
theorem rin_fn (M : Mem) (n lo hi : Int) : Fn0 Try.prog 35 [.int .i64 n, .int .i64 lo, .int .i64 hi] M (fun r M' => r = .bool (decide (lo ≤ n ∧ n ≤ hi)) ∧ M = M') := by
  refine Fn.intro Try.func35 rfl rfl Try.ntmps35 rfl fun E F => ?_
  by_cases h1 : lo ≤ n
  · (repeat (first | ((with_reducible refine Tr.step rfl ?_); (first | (refine xmQ (z := ?_)) | (refine xaQ (z := ?_)) | (refine xiQ (z := ?_)) | ((with_reducible refine Knd.pick ?_); (refine Exec.stab rfl (Stab.pick_td rfl (by (with_reducible assumption)) rfl) rfl ?_)))) | (with_reducible first | apply Tr.next | apply Tr.seq | apply Tr.region | apply Tr.nil) | ((refine Tr.guard_y rfl rfl rfl (by (with_reducible assumption)) ?_); (first | (refine xmQ (z := ?_)) | (refine xiQ (z := ?_)))) | (with_reducible refine Tr.ret ?_)))
    (refine dnQ (hL := by exact ⟨[], rfl⟩) (k := ⟨rfl, ?_⟩))
    exact ⟨by simp [h1]; rfl, rfl⟩
  · (repeat (first | ((with_reducible refine Tr.step rfl ?_); (first | (refine xmQ (z := ?_)) | (refine xaQ (z := ?_)) | (refine xiQ (z := ?_)) | ((with_reducible refine Knd.pick ?_); (refine Exec.stab rfl (Stab.pick_fd rfl (by (with_reducible assumption)) rfl) rfl ?_)))) | (with_reducible first | apply Tr.next | apply Tr.seq | apply Tr.region | apply Tr.nil) | (refine Tr.guard_n rfl rfl rfl (by (with_reducible assumption)) rfl rfl ?_) | (with_reducible refine Tr.ret ?_)))
    (refine dnQ (hL := by exact ⟨[], rfl⟩) (k := ⟨rfl, ?_⟩))
    exact ⟨by simp [h1]; rfl, rfl⟩
set_option maxHeartbeats 4000000 in
theorem rwith_fn (M : Mem) (A : Option Addr) (c : Nat) (l : List Int) (i : Nat) (z : Int) (h : Ints M (.slice A l.length c) l) (hi : i < l.length) (hl : l.length ≤ 1000000) :
    Fn0 Try.prog 80 [.slice A l.length c, .int .i64 (i : Int), .int .i64 z] M (fun r M' => ∃ B d, r = .slice B l.length d ∧ Ints M' (.slice B l.length d) (l.set i z)) := by
  refine Fn.intro Try.func80 rfl rfl Try.ntmps80 rfl fun E F => ?_
  (repeat (first | ((with_reducible refine Tr.step rfl ?_); (first | (refine xmQ (z := ?_)) | (refine xaQ (z := ?_)) | ((with_reducible refine Knd.buildSlice ?_); (refine Exec.buildSlice (tysOk.get rfl) rfl (tysOk.get rfl) rfl rfl rfl rfl rfl (by repeat (exact BuildP.nil)) rfl (fun b => ?_))))) | (with_reducible first | apply Tr.next | apply Tr.seq | apply Tr.region | apply Tr.nil)))
  refine Tr.box_own 1 0 (by repeat (first | exact Upd.here | apply Upd.there)) rfl (by intro u hu; cases hu) (by simp [maxLen]) ?_
  ((refine Tr.step rfl ?_))
  refine Exec.append (news := intV l) rfl rfl (tysOk.get rfl) rfl (tysOk.get rfl) rfl rfl rfl rfl (by repeat (first | exact Del.here | apply Del.there)) (Src.row h.row) (by rw [intV_length, Nat.mul_one]) (intV_one l) (by omega) (by omega) rfl (fun A6 c6 hc6 => ?_)
  rw [Nat.zero_add, zeros0_app]
  refine Tr.own_some A6 (e := 3) (sz := 1) (m := l.length) (c := c6) (xs := intV l) (by repeat (first | exact Has.here | apply Has.there)) (by omega) (fun hA6 => ?_)
  (repeat (first | ((with_reducible refine Tr.step rfl ?_); (first | (refine xmQ (z := ?_)) | (refine xaQ (z := ?_)) | ((with_reducible refine Knd.store ?_); (refine Exec.storeO rfl rfl (tysOk.get rfl) rfl (by first | rfl | assumption) (by repeat (first | exact Upd.here | apply Upd.there)) (by omega) ?_)) | (refine xxQ (z := ?_)))) | (with_reducible first | apply Tr.next | apply Tr.seq | apply Tr.region | apply Tr.nil | apply Tr.ret)))
  rw [Int.toNat_natCast i, intV_set]
  refine pbQ (r := ownS 3 1 A6 _ _ _) (k := fun M1 hm1 ok1 => ?_)
  have i1 := Ints.ofOwn ok1 (by rw [List.length_set]) hc6
  rw [List.length_set] at i1
  (refine dnQ (hL := by exact ⟨[], rfl⟩) (k := ⟨rfl, ?_⟩))
  exact ⟨A6, c6, rfl, i1⟩
set_option maxHeartbeats 4000000 in
theorem rserves_fn (M : Mem) (bv sv : Value) (k : Bk) (s : St) (hB : RBk M bv k) (hS : RSr M sv s) (i j : Nat) (hi : i < k.fits.length) (hi2 : i < s.dy.length) (hj : j < k.reqs.length) (hr : ∀ r ∈ k.fits, r.length = k.reqs.length) :
    Fn0 Try.prog 55 [bv, sv, .int .i64 (i : Int), .int .i64 (j : Int)] M (fun r M' => r = .bool (((fxB k).fits.getD i []).getD j false && decide (s.dy.getD i 0 ≤ (fxB k).due.getD j 0)) ∧ M = M') := by
  obtain ⟨As, cs, Ar, cr, Af, cf, Ad, cd, rfl, h1, h2, h3⟩ := hB
  obtain ⟨Ba, ba, Bd, bd, Bn, bn, Bb, bb, rfl, q1, q2, q3, q4⟩ := hS
  obtain ⟨row, hrow⟩ := get_of_lt hi
  have hrl := hr row (List.mem_of_getElem? hrow)
  obtain ⟨hA1, ch, hat1, Aw, kw, rfl, hb⟩ := h3.elem hrow
  obtain ⟨t, ht⟩ := get_of_lt (xs := row) (i := j) (by omega)
  obtain ⟨hA2, hat2⟩ := hb.at ht
  obtain ⟨d, hd⟩ := get_of_lt hi2
  obtain ⟨hA3, hat3⟩ := q2.at hd
  obtain ⟨u, hu⟩ := get_of_lt hj
  obtain ⟨hA4, ch4, hat4, rfl⟩ := h2.elem hu
  replace hat4 := hat4.drop 3
  dsimp only [List.drop] at hat4
  rw [show (fxB k).fits.getD i [] = row from getD_of hrow, getD_of ht, getD_of hd, show (fxB k).due.getD j 0 = u.due by show (k.reqs.map (·.due)).getD j 0 = u.due; rw [List.getD_eq_getElem?_getD, List.getElem?_map, hu]; rfl]
  refine Fn.intro Try.func55 rfl rfl Try.ntmps55 rfl fun E F => ?_
  cases t
  · (repeat (first | ((with_reducible refine Tr.step rfl ?_); (first | (refine xaQ (z := ?_)) | ((with_reducible refine Knd.box ?_); (refine Exec.box rfl rfl (fun b => ?_))))) | (with_reducible first | apply Tr.next | apply Tr.seq | apply Tr.region | apply Tr.nil)))
    (((apply Tr.draw); (kernel_rfl)); (refine tkQ 0 (hB := by exact fun _ h => h) (s := by exact sfQ) (h := ?_)); (refine tkQ 2 (s := by exact Stab.move rfl) (h := ?_)); (refine tkQ 5 (s := by exact Stab.move rfl) (h := ?_)); (refine tkQ 1 (s := by exact slQ) (h := ?_)); (refine tkQ 3 (s := by exact sxQ) (h := ?_)); (refine tkQ 4 (s := by exact sMQ) (h := ?_)); (refine tkQ 6 (s := by exact sxQ) (h := ?_)); (refine tkQ 7 (s := by exact sMQ) (h := ?_)); (refine tkQ 8 (s := by exact Stab.move rfl) (h := ?_)); ((refine tuQ 9 (h := ?_))); ((refine tuQ 11 (h := ?_))); ((refine tuQ 14 (h := ?_))); ((refine tuQ 16 (h := ?_))); ((refine tuQ 10 (h := ?_))); ((refine tuQ 15 (h := ?_))); ((refine tuQ 12 (h := ?_))); ((refine tuQ 17 (h := ?_))); ((refine tuQ 13 (h := ?_))); ((refine tuQ 18 (h := ?_))); ((refine tuQ 19 (h := ?_))); ((refine tuQ 20 (h := ?_))); (refine tkQ 21 (s := by exact Stab.pick_f rfl (by (with_reducible rfl)) rfl) (h := ?_)); (refine tkQ 22 (s := by exact Stab.assign rfl) (h := ?_)); (refine TrA.done (by kernel_rfl) ?_))
    (repeat (first | (with_reducible first | apply Tr.next | apply Tr.ret)))
    (refine dnQ (hL := by exact ⟨[_, _], rfl⟩) (k := ⟨rfl, ?_⟩))
    exact ⟨rfl, rfl⟩
  · (repeat (first | ((with_reducible refine Tr.step rfl ?_); (first | (refine xaQ (z := ?_)) | ((with_reducible refine Knd.box ?_); (refine Exec.box rfl rfl (fun b => ?_))))) | (with_reducible first | apply Tr.next | apply Tr.seq | apply Tr.region | apply Tr.nil)))
    (((apply Tr.draw); (kernel_rfl)); (refine tkQ 0 (hB := by exact fun _ h => h) (s := by exact sfQ) (h := ?_)); (refine tkQ 2 (s := by exact Stab.move rfl) (h := ?_)); (refine tkQ 5 (s := by exact Stab.move rfl) (h := ?_)); (refine tkQ 1 (s := by exact slQ) (h := ?_)); (refine tkQ 3 (s := by exact sxQ) (h := ?_)); (refine tkQ 4 (s := by exact sMQ) (h := ?_)); (refine tkQ 6 (s := by exact sxQ) (h := ?_)); (refine tkQ 7 (s := by exact sMQ) (h := ?_)); (refine tkQ 8 (s := by exact Stab.move rfl) (h := ?_)); ((refine tgQ 9 (s := by exact sfQ) (h := ?_))); ((refine tgQ 11 (s := by exact Stab.move rfl) (h := ?_))); ((refine tgQ 14 (s := by exact sfQ) (h := ?_))); ((refine tgQ 16 (s := by exact Stab.move rfl) (h := ?_))); ((refine tgQ 10 (s := by exact slQ) (h := ?_))); ((refine tgQ 15 (s := by exact slQ) (h := ?_))); ((refine tgQ 12 (s := by exact sxQ) (h := ?_))); ((refine tgQ 17 (s := by exact sxQ) (h := ?_))); ((refine tgQ 13 (s := by exact sMQ) (h := ?_))); ((refine tgQ 18 (s := by exact Stab.fieldD rfl (tysOk.get rfl) rfl rfl (tysOk.get rfl) rfl) (h := ?_))); ((refine tgQ 19 (s := by exact sMQ) (h := ?_))); ((refine tgQ 20 (s := by exact siQ) (h := ?_))); (refine tkQ 21 (s := by exact Stab.pick_t rfl (by (with_reducible rfl)) rfl) (h := ?_)); (refine tkQ 22 (s := by exact Stab.assign rfl) (h := ?_)); (refine TrA.done (by kernel_rfl) ?_))
    (repeat (first | (with_reducible first | apply Tr.next | apply Tr.ret)))
    (refine dnQ (hL := by exact ⟨[_, _], rfl⟩) (k := ⟨rfl, ?_⟩))
    exact ⟨rfl, rfl⟩
set_option maxHeartbeats 4000000 in
theorem rany_fn (M : Mem) (A : Option Addr) (c : Nat) (l : List Bool) (h : Bools M (.slice A l.length c) l) :
    Fn0 Try.prog 79 [.slice A l.length c] M (fun r M' => r = .bool (l.any id) ∧ M = M') := by
  have hll := h.len_le
  refine Fn.intro Try.func79 rfl rfl Try.ntmps79 rfl fun E F => ?_
  (repeat (first | ((with_reducible refine Tr.step rfl ?_); (with_reducible refine Knd.assign ?_); (refine xaQ (z := ?_))) | (with_reducible first | apply Tr.next | apply Tr.seq | apply Tr.region | apply Tr.nil | apply Tr.block)))
  refine Tr.loop (α := Nat) (fun y => ⟨14, [(3, .int .i64 (y : Int)), (0, .slice A l.length c)], [], M, [] ++ F⟩)
    (fun y => y ≤ l.length ∧ (l.take y).any id = false) (fun y => l.length - y) 0 ⟨Nat.zero_le _, rfl⟩ hsQ (fun i hi => ?_)
  obtain ⟨hi, hall⟩ := hi
  by_cases hlt : i < l.length
  · obtain ⟨u, hu⟩ := get_of_lt hlt
    obtain ⟨hA, hat⟩ := h.at hu
    have hnx := any_take (p := id) hu
    rw [hall, Bool.false_or] at hnx
    cases u
    · (repeat (first | ((with_reducible refine Tr.step rfl ?_); (first | (refine xmQ (z := ?_)) | (refine xaQ (z := ?_)) | (refine xMQ (z := ?_)) | (refine xnQ (z := ?_)) | ((with_reducible refine Knd.binOp ?_); (first | (refine xdQ (z := ?_)) | (refine xiQ (z := ?_)))) | (refine xxQ (z := ?_)))) | (with_reducible first | apply Tr.next | apply Tr.seq | apply Tr.region | apply Tr.nil | apply Tr.skip | apply Tr.block | apply Tr.in_normal) | (refine Tr.cond_bf rfl (by (with_reducible rfl)) ?_) | (refine Tr.cond_t rfl (by first | (with_reducible assumption) | omega) ?_)))
      exact Tr.again (i + 1) ⟨by omega, hnx⟩ (by omega) hsQ
    · (repeat (first | ((with_reducible refine Tr.step rfl ?_); (first | (refine xmQ (z := ?_)) | (refine xaQ (z := ?_)) | (refine xMQ (z := ?_)) | (refine xnQ (z := ?_)) | (refine xiQ (z := ?_)) | (refine xxQ (z := ?_)))) | (with_reducible first | apply Tr.next | apply Tr.seq | apply Tr.region | apply Tr.nil | apply Tr.skip | apply Tr.block | apply Tr.ret | apply Tr.then_ret | apply Tr.in_ret) | (refine Tr.cond_bt rfl (by (with_reducible rfl)) ?_) | (refine Tr.cond_t rfl (by first | (with_reducible assumption) | omega) ?_)))
      (refine dnQ (hL := by exact ⟨[], rfl⟩) (k := ⟨rfl, ?_⟩))
      refine ⟨?_, rfl⟩
      rw [List.any_eq_true.2 ⟨true, List.mem_of_getElem? hu, rfl⟩]; rfl
  have ei : l.length = i := by omega
  subst ei
  rw [List.take_length] at hall
  (repeat (first | ((with_reducible refine Tr.step rfl ?_); (first | (refine xmQ (z := ?_)) | (refine xaQ (z := ?_)) | (refine xnQ (z := ?_)) | (refine xiQ (z := ?_)))) | (with_reducible first | apply Tr.next | apply Tr.seq | apply Tr.region | apply Tr.nil | apply Tr.exit | apply Tr.ret | apply Tr.then_exit) | ((with_reducible refine Tr.in_exit ?_ ?_); (exact rfl)) | (refine Tr.cond_f rfl (by first | (with_reducible assumption) | omega) ?_)))
  (refine dnQ (hL := by exact ⟨[], rfl⟩) (k := ⟨rfl, ?_⟩))
  exact ⟨by rw [hall]; rfl, rfl⟩
set_option maxHeartbeats 8000000 in
theorem rtable_fn (M : Mem) (bv sv : Value) (k : Bk) (s : St) (hB : RBk M bv k) (hS : RSr M sv s) (hf : Fit (fxB k) s) (e1 : s.dy.length = k.sups.length) (e2 : s.nd.length = k.reqs.length) :
    Fn0 Try.prog 29 [bv, sv] M (fun r M' => ∃ A c, r = .slice A (tabL (fxB k).fits (fxB k).due s.dy).length c ∧ Fits2 M' (.slice A (tabL (fxB k).fits (fxB k).due s.dy).length c) (tabL (fxB k).fits (fxB k).due s.dy)) := by
  have hB0 := hB
  have hS0 := hS
  obtain ⟨As, cs, Ar, cr, Af, cf, Ad, cd, rfl, h1, h2, h3⟩ := hB
  obtain ⟨Ba, ba, Bd, bd, Bn, bn, Bb, bb, rfl, q1, q2, q3, q4⟩ := hS
  have l1 := hf.l64
  have l2 := hf.r64
  have l3 := hf.dyl
  have l4 := hf.dul
  have l5 := hf.fil
  have l6 : k.fits.length = s.am.length := l5
  have hrw : ∀ r ∈ k.fits, r.length = k.reqs.length := fun r hr => by rw [← e2]; exact hf.row r hr
  refine Fn.intro Try.func29 rfl rfl Try.ntmps29 rfl fun E F => ?_
  (repeat (first | ((with_reducible refine Tr.step rfl ?_); (first | (refine xaQ (z := ?_)) | ((with_reducible refine Knd.box ?_); (refine Exec.box rfl rfl (fun b => ?_))) | ((with_reducible refine Knd.buildSlice ?_); (refine Exec.buildSlice (tysOk.get rfl) rfl (tysOk.get rfl) rfl rfl rfl rfl rfl (by repeat (exact BuildP.nil)) rfl (fun b => ?_))))) | (with_reducible first | apply Tr.next | apply Tr.seq | apply Tr.region | apply Tr.nil | apply Tr.block)))
  generalize b = bo
  rename_i b2 b3
  refine Tr.box_own 1 0 (by repeat (first | exact Upd.here | apply Upd.there)) rfl (by intro u hu; cases hu) (by simp [maxLen]) ?_
  refine Tr.loop (α := Nat × Mem × Option Addr × Nat × List Value) (fun y => ⟨38, [(6, .int .i64 (y.1 : Int)), (5, .slice y.2.2.1 y.1 y.2.2.2.1), (2, .pointer (some ⟨b2, 0, none⟩)), (3, .pointer (some ⟨b3, 0, none⟩))], [], y.2.1,
      ownS 60 1 y.2.2.1 y.1 y.2.2.2.1 y.2.2.2.2 :: box b3 67 [.slice Ba s.am.length ba, .slice Bd s.dy.length bd, .slice Bn s.nd.length bn, .slice Bb s.br.length bb] :: box b2 27 [.int .i64 k.known, .slice As k.sups.length cs, .slice Ar k.reqs.length cr, .slice Af k.fits.length cf, .slice Ad k.reads cd] :: ([] ++ F)⟩)
    (fun y => y.1 ≤ k.sups.length ∧ Mem.le M y.2.1 ∧ y.2.2.2.1 ≤ 9223372036854775807 ∧ Elems 1 RRowB y.2.1 y.2.2.2.2 ((List.range y.1).map (rowT (fxB k) s))) (fun y => k.sups.length - y.1) (0, M, some ⟨bo, 0, none⟩, 0, []) ⟨Nat.zero_le _, Mem.le.refl _, by show (0 : Nat) ≤ _; omega, Elems.nil⟩ hsQ (fun y hy => ?_)
  obtain ⟨i, M1, A1, c1, cells⟩ := y
  obtain ⟨hi, hm1, hc1, hel⟩ := hy
  dsimp only at hi hm1 hc1 hel
  dsimp only
  by_cases hlt : i < k.sups.length
  rotate_left
  · have ei : k.sups.length = i := by omega
    refine pbQ (r := ownS 60 1 A1 _ _ _) (k := fun M2 hm2 hok => ?_)
    have hlast := hm1.trans hm2
    (repeat (first | ((with_reducible refine Tr.step rfl ?_); (first | (refine xmQ (z := ?_)) | (refine xaQ (z := ?_)) | (refine xlQ (z := ?_)) | (refine xfQ (z := ?_)) | (refine xnQ (z := ?_)) | (refine xiQ (z := ?_)))) | (with_reducible first | apply Tr.next | apply Tr.seq | apply Tr.region | apply Tr.nil | apply Tr.exit | apply Tr.ret | apply Tr.then_exit) | ((with_reducible refine Tr.in_exit ?_ ?_); (exact rfl)) | (refine Tr.cond_f rfl (by first | (with_reducible assumption) | omega) ?_)))
    (refine dnQ (hL := by exact ⟨[_, _], rfl⟩) (k := ⟨rfl, ?_⟩))
    have hT := SlOf.ofOwn hok (by rw [List.length_map, List.length_range]) hc1 (hel.mono RRowB.mono hm2)
    have et : tabL (fxB k).fits (fxB k).due s.dy = (List.range i).map (rowT (fxB k) s) := by rw [tabL_rows, e1, ei]
    rw [et]
    rw [show ((List.range i).map (rowT (fxB k) s)).length = i by simp] at hT ⊢
    exact ⟨A1, c1, rfl, hT⟩
  (repeat (first | ((with_reducible refine Tr.step rfl ?_); (first | (refine xmQ (z := ?_)) | (refine xaQ (z := ?_)) | (refine xlQ (z := ?_)) | (refine xfQ (z := ?_)) | (refine xnQ (z := ?_)) | (refine xiQ (z := ?_)) | ((with_reducible refine Knd.buildSlice ?_); (refine Exec.buildSlice (tysOk.get rfl) rfl (tysOk.get rfl) rfl rfl rfl rfl rfl (by repeat (exact BuildP.nil)) rfl (fun b => ?_))))) | (with_reducible first | apply Tr.next | apply Tr.seq | apply Tr.region | apply Tr.nil | apply Tr.skip | apply Tr.block) | (refine Tr.cond_t rfl (by first | (with_reducible assumption) | omega) ?_)))
  generalize b = bi
  refine Tr.box_own 1 0 (by repeat (first | exact Upd.here | apply Upd.there)) rfl (by intro u hu; cases hu) (by simp [maxLen]) ?_
  refine Tr.loop (α := Nat × Option Addr × Nat) (fun y => ⟨38, [(8, .int .i64 (y.1 : Int)), (7, .slice y.2.1 y.1 y.2.2), (6, .int .i64 (i : Int)), (5, .slice A1 i c1), (2, .pointer (some ⟨b2, 0, none⟩)), (3, .pointer (some ⟨b3, 0, none⟩))], [], M1,
      ownS 4 1 y.2.1 y.1 y.2.2 (boV ((rowT (fxB k) s i).take y.1)) :: ownS 60 1 A1 i c1 cells :: box b3 67 [.slice Ba s.am.length ba, .slice Bd s.dy.length bd, .slice Bn s.nd.length bn, .slice Bb s.br.length bb] :: box b2 27 [.int .i64 k.known, .slice As k.sups.length cs, .slice Ar k.reqs.length cr, .slice Af k.fits.length cf, .slice Ad k.reads cd] :: ([] ++ F)⟩)
    (fun y => y.1 ≤ k.reqs.length ∧ y.2.2 ≤ 9223372036854775807) (fun y => k.reqs.length - y.1) (0, some ⟨bi, 0, none⟩, 0) ⟨Nat.zero_le _, by show (0 : Nat) ≤ _; omega⟩ hsQ (fun y hy => ?_)
  obtain ⟨j, A2, c2⟩ := y
  obtain ⟨hj, hc2⟩ := hy
  dsimp only at hj hc2
  dsimp only
  by_cases hlt2 : j < k.reqs.length
  · have hsv := rserves_fn M1 _ _ k s (hB0.mono hm1) (hS0.mono hm1) i j (by omega) (by omega) hlt2 hrw
    have htk := rowT_take (fxB k) s i j (by omega)
    generalize hq : (((fxB k).fits.getD i []).getD j false && decide (s.dy.getD i 0 ≤ (fxB k).due.getD j 0)) = q at hsv htk
    (repeat (first | ((with_reducible refine Tr.step rfl ?_); (first | (refine xmQ (z := ?_)) | ((with_reducible refine Knd.load ?_); (first | (refine xlQ (z := ?_)) | (refine xwQ (z := ?_)))) | (refine xfQ (z := ?_)) | (refine xnQ (z := ?_)) | (refine xiQ (z := ?_)))) | (with_reducible first | apply Tr.next | apply Tr.seq | apply Tr.region | apply Tr.nil | apply Tr.skip | apply Tr.block) | (refine Tr.cond_t rfl (by first | (with_reducible assumption) | omega) ?_)))
    ((refine Tr.step rfl ?_)); refine Exec.call0 rfl (hsv) rfl ?_
    rintro _ _ _ ⟨rfl, rfl⟩
    (repeat (((with_reducible refine Tr.step rfl ?_); (with_reducible refine Knd.buildSlice ?_); (refine Exec.buildSlice (tysOk.get rfl) rfl (tysOk.get rfl) rfl rfl rfl rfl rfl (by repeat (first | exact BuildP.nil | ((apply BuildP.one); (rfl); (rfl); (first | rfl | assumption); (repeat (first | exact SetL.z | apply SetL.s))))) rfl (fun b => ?_)))))
    ((refine Tr.step rfl ?_))
    refine Exec.append (news := [.bool q]) rfl rfl (tysOk.get rfl) rfl (tysOk.get rfl) rfl rfl rfl rfl (by repeat (first | exact Del.here | apply Del.there)) (Src.box (by repeat (first | exact Has.here | apply Has.there))) rfl (by intro u hu; simp at hu; subst hu; rfl) (by omega) (by omega) rfl (fun A3 c3 hc3 => ?_)
    refine gvQ (r := box b 4 _) (k := ?_)
    rw [show boV ((rowT (fxB k) s i).take j) ++ [Value.bool q] = boV ((rowT (fxB k) s i).take (j + 1)) by rw [htk, boV_app]; rfl]
    (repeat (first | ((with_reducible refine Tr.step rfl ?_); (first | (refine xmQ (z := ?_)) | (refine xaQ (z := ?_)) | (refine xdQ (z := ?_)))) | (with_reducible first | apply Tr.next | apply Tr.region | apply Tr.nil | apply Tr.in_normal)))
    exact Tr.again (j + 1, A3, c3) ⟨by simp only; omega, hc3⟩ (by simp only; omega) hsQ
  have ej : k.reqs.length = j := by omega
  subst ej
  have hrt : (rowT (fxB k) s i).length = k.reqs.length := by rw [rowT_length, l4, e2]
  rw [List.take_of_length_le (by omega)]
  refine pbQ (r := ownS 4 1 A2 _ _ _) (k := fun M2 hm2 hok => ?_)
  have hR : Bools M2 (.slice A2 (rowT (fxB k) s i).length c2) (rowT (fxB k) s i) := SlOf.ofOwn hok hrt.symm hc2 (boV_elems M2 _)
  rw [hrt] at hR
  (repeat (first | ((with_reducible refine Tr.step rfl ?_); (first | (refine xmQ (z := ?_)) | (refine xlQ (z := ?_)) | (refine xfQ (z := ?_)) | (refine xnQ (z := ?_)) | (refine xiQ (z := ?_)) | ((with_reducible refine Knd.buildSlice ?_); (refine Exec.buildSlice (tysOk.get rfl) rfl (tysOk.get rfl) rfl rfl rfl rfl rfl (by repeat (first | exact BuildP.nil | ((apply BuildP.one); (rfl); (rfl); (first | rfl | assumption); (repeat (first | exact SetL.z | apply SetL.s))))) rfl (fun b => ?_))))) | (with_reducible first | apply Tr.next | apply Tr.seq | apply Tr.region | apply Tr.nil | apply Tr.exit | apply Tr.then_exit) | ((with_reducible refine Tr.in_exit ?_ ?_); (exact rfl)) | (refine Tr.cond_f rfl (by first | (with_reducible assumption) | omega) ?_)))
  ((refine Tr.step rfl ?_))
  refine Exec.append (news := [.slice A2 k.reqs.length c2]) rfl rfl (tysOk.get rfl) rfl (tysOk.get rfl) rfl rfl rfl rfl (by repeat (first | exact Del.here | apply Del.there)) (Src.box (by repeat (first | exact Has.here | apply Has.there))) rfl (by intro u hu; simp at hu; subst hu; rfl) (by omega) (by omega) rfl (fun A3 c3 hc3 => ?_)
  refine gvQ (r := box b _ _) (k := ?_)
  have hel2 : Elems 1 RRowB M2 (cells ++ [.slice A2 k.reqs.length c2]) ((List.range (i + 1)).map (rowT (fxB k) s)) := by
    rw [List.range_succ, List.map_append]
    exact (hel.mono RRowB.mono hm2).append (Elems.one rfl ⟨A2, c2, by rw [hrt], by rw [hrt]; exact hR⟩)
  (repeat (first | ((with_reducible refine Tr.step rfl ?_); (first | (refine xmQ (z := ?_)) | (refine xaQ (z := ?_)) | (refine xdQ (z := ?_)))) | (with_reducible first | apply Tr.next | apply Tr.region | apply Tr.nil | apply Tr.in_normal)))
  exact Tr.again (i + 1, M2, A3, c3, _) ⟨by simp only; omega, hm1.trans hm2, hc3, hel2⟩ (by simp only; omega) hsQ
end Go.Proofs.Ytgnipfjjkliibaa

